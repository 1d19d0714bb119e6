/- The proof kit E, in parts. -/
import Derived.Test.YtdbnlgknalencaaGreatEEa
import Derived.SizedLaws
import Derived.ChangeSlices
import Derived.Laws.StructEq
import Derived.ChangeKeysEq
/- The proof kit 'E', part 6: a range over a function: the yield, the rounds, the statement; a function's end behind such loops; calls of function values. -/
namespace Go.E
open Go Go.RowKit
/-! ### Groups of items -/
theorem star_star {K R : List HP} {h : Hp} : star (star K :: R) h ↔ star (K ++ R) h := star_append.symm
theorem Sat.group {base : World} {M : Nat → Prop} {K R : List HP} {w : World} : Sat base M (star K :: R) w ↔ Sat base M (K ++ R) w :=
  ⟨fun h => ⟨let ⟨k, s, i, f⟩ := h.hp; ⟨k, star_star.1 s, i, f⟩, h.since⟩, fun h => ⟨let ⟨k, s, i, f⟩ := h.hp; ⟨k, star_star.2 s, i, f⟩, h.since⟩⟩
theorem Owns.group {w : World} {K : List HP} {N : Nat → Prop} : Owns w [star K] N ↔ Owns w K N :=
  ⟨fun ⟨h, s, i, f⟩ => ⟨h, star_one.1 s, i, f⟩, fun ⟨h, s, i, f⟩ => ⟨h, star_one.2 s, i, f⟩⟩
theorem Owns.perm {w : World} {K K' : List HP} {N : Nat → Prop} (p : K.Perm K') (h : Owns w K N) : Owns w K' N := let ⟨k, s, i, f⟩ := h; ⟨k, star_perm p _ s, i, f⟩
section
variable {P : Program} {fr : Fr P} {ds : List Deferred} {ρ : Env} {L : List HP} {k : List It} {all : Array Oper} {rest : List Oper}
/-! ### Function values -/
theorem run_dynamic {a : Act} {w : World} {f : FuncId} {g : Operand} {xs : List Operand} {ts : Array TypeId} {vs caps : List Value} {o : Oper} (ho : o.op = .call ⟨.value g, xs.toArray, ts⟩) (hg : a.eval g = .func (.func f) #[] caps.toArray)
    (hx : xs.map a.eval = vs) (hf : callable P f = true) : (execOp a.eval o).run P w = .ok (.enter f (vs ++ caps).toArray) w := by
  unfold execOp
  rw [ho]
  have hm : (xs.toArray.map a.eval) = vs.toArray := by rw [List.map_toArray, hx]
  simp only [resolve, hg, Deferred.ofValue, Sem.run_bind, Sem.run_pure, Result.andThen_ok, invoke, hm]
  have := run_callFunc (args := (vs ++ caps).toArray) (w := w) hf
  simpa using this
/-- A call of a function value. -/
theorem s_callV {d : Nat} {f : FuncId} {g : Operand} {xs : List Operand} {ts : Array TypeId} {ty : TypeId} {pos : String} {af : Array Edge} {vs caps : List Value} {pre rem : List HP} {R : Value → List HP → Prop}
    (hg : ρ.ev g = some (.func (.func f) #[] caps.toArray)) (hx : ρ.evs xs = some vs) (hf : fr.X.has f = true) (hL : L.Perm (pre ++ rem))
    (hc : ∀ w N, Owns w pre N → (∀ w', Since w N w' → Sat fr.base fr.M rem w') → Ret P f (vs ++ caps) w N R) (hd : Nat.ble (d + 1) fr.n = true)
    (h : ∀ v L', R v L' → J fr ds ((d, v) :: ρ) (L' ++ rem) (.ops all rest :: k)) :
    J fr ds ρ L (.ops all (⟨some d, .call ⟨.value g, xs.toArray, ts⟩, ty, pos, af, none⟩ :: rest) :: k) := by
  refine s_op rfl (fun c e => by cases e) fun a w ha hw => ?_
  rw [run_dynamic rfl (ha.ev hg) (ha.evs hx) (fr.X.call hf)]
  have hw' := hw.perm hL
  obtain ⟨N, ho, hframe, hl⟩ := hw'.framed
  refine uponIn_call (hc w N ho hl) fun v L' w' hR hS => ?_
  exact h v L' hR _ w' (ha.put hd v) (hframe L' w' hS)
/-! ### yield -/
/-- What a round comes to. -/
def RetY (P : Program) (l : Nat) (args : List Value) (w : World) (M : Nat → Prop) (R : Value → List HP → Prop) : Prop :=
  ∃ f tmps assign body, (Instr.yield l args.toArray).run P w = .ok (.round l f tmps assign body) w ∧ RoundIn Fence.wide 0 P l f tmps assign body w fun e w' => ∃ v L', e = .returned v ∧ R v L' ∧ Sat w M L' w'
theorem s_callY {d l : Nat} {g : Operand} {xs : List Operand} {ts : Array TypeId} {ty : TypeId} {pos : String} {af : Array Edge} {vs : List Value} {pre rem : List HP} {R : Value → List HP → Prop}
    (hg : ρ.ev g = some (.func (.yield l) #[] #[])) (hx : ρ.evs xs = some vs) (hL : L.Perm (pre ++ rem)) (hr : fr.r = none)
    (hc : ∀ w N, Owns w pre N → (∀ w', Since w N w' → Sat fr.base fr.M rem w') → RetY P l vs w N R) (hd : Nat.ble (d + 1) fr.n = true)
    (h : ∀ v L', R v L' → J fr ds ((d, v) :: ρ) (L' ++ rem) (.ops all rest :: k)) :
    J fr ds ρ L (.ops all (⟨some d, .call ⟨.value g, xs.toArray, ts⟩, ty, pos, af, none⟩ :: rest) :: k) := by
  refine s_op rfl (fun c e => by cases e) fun a w ha hw => ?_
  have hw' := hw.perm hL
  obtain ⟨N, ho, hframe, hl⟩ := hw'.framed
  obtain ⟨f, tmps, assign, body, hy, hround⟩ := hc w N ho hl
  have hm : (xs.toArray.map a.eval) = vs.toArray := by rw [List.map_toArray, ha.evs hx]
  have hrun : (execOp a.eval ⟨some d, .call ⟨.value g, xs.toArray, ts⟩, ty, pos, af, none⟩).run P w = .ok (.round l f tmps assign body) w := by
    simp only [execOp, resolve, ha.ev hg, Deferred.ofValue, Sem.run_bind, Sem.run_pure, Result.andThen_ok, invoke, hm]
    simpa using hy
  rw [hrun, Oper.uponIn_round]
  refine ⟨fun x => absurd x (by simp [FW, Fence.wide]), ?_⟩
  have hFW : FW fr.r = Fence.wide := by rw [hr]; rfl
  rw [← hFW] at hround
  refine RoundIn.mono (n := 0 - 1) hround ?_
  rintro e w' ⟨v, L', rfl, hR, hS⟩
  exact h v L' hR _ w' (ha.put hd v) (hframe L' w' hS)
end
/-! ### The loop's record -/
theorem run_getLoop {P : Program} {w : World} {l : Nat} {R : Loop} (h : w.heap[l]? = some (.loop R)) : (Instr.getLoop l).run P w = .ok R w := by
  simp [Instr.getLoop, getObj, Sem.run, h]
theorem run_setLoop {P : Program} {w : World} {l : Nat} {R : Loop} (R' : Loop) (h : w.heap[l]? = some (.loop R)) : (setObj l (.loop R')).run P w = .ok () { w with heap := w.heap.setIfInBounds l (.loop R') } := by
  simp [setObj, Sem.run, h]
theorem Sat.setObj {base : World} {M : Nat → Prop} {L : List HP} {b : Nat} {o : Obj} {w : World} (h : Sat base M (pt b o :: L) w) (o' : Obj) : Sat base M (pt b o' :: L) { w with heap := w.heap.setIfInBounds b o' } := by
  have hb := (Array.getElem?_eq_some_iff.1 h.at).1
  refine h.turn ?_ (fun k hk => ?_) (by simp) rfl rfl rfl
  · simp [hb]
  · exact Array.getElem?_setIfInBounds_ne (Ne.symm hk)
def lp (l : Nat) (R : Loop) : HP := pt l (.loop R)
def Loop.st (R : Loop) (s : LoopState) (p : Option Code) : Loop := { R with state := s, pending := p }
/-- Between two rounds; behind a round that has left. -/
def LI' (l : Nat) (R : Loop) (LI : Nat → List HP) (k : Nat) : HP := star (lp l (Loop.st R .ready none) :: LI k)
def LS' {τ : Type} (l : Nat) (R : Loop) (LS : τ → Code × List HP) : HP := fun h => ∃ t, star (lp l (Loop.st R .done (some (LS t).1)) :: (LS t).2) h
/-- What a round's yield tells. -/
def RY {τ : Type} (l : Nat) (R : Loop) (LI : Nat → List HP) (LS : τ → Code × List HP) (k : Nat) (v : Value) (L' : List HP) : Prop :=
  (v = .bool true ∧ L' = [LI' l R LI (k + 1)]) ∨ (v = .bool false ∧ L' = [LS' l R LS])
def QY {τ : Type} (P : Program) (w : World) (N : Nat → Prop) (l : Nat) (R : Loop) (LI : Nat → List HP) (LS : τ → Code × List HP) (k : Nat) : Exit → Act → World → Prop :=
  roundPost P l fun e w' => ∃ v L', e = .returned v ∧ RY l R LI LS k v L' ∧ Sat w N L' w'
section
variable {P : Program} {ds : List Deferred} {ρ : Env} {L : List HP} {X : Cx P} {w0 : World} {N : Nat → Prop} {n l : Nat} {R : Loop} {τ : Type} {LI : Nat → List HP} {LS : τ → Code × List HP} {kk : Nat} {s : LoopState} {p : Option Code}
theorem run_endRound {w : World} {R : Loop} (h : w.heap[l]? = some (.loop R)) (j : Option Code) : (Instr.endRound l j).run P w = .ok (.bool j.isNone) { w with heap := w.heap.setIfInBounds l (.loop (Loop.st R (if j.isNone then .ready else .done) j)) } := by
  simp only [Instr.endRound, Sem.run_bind, run_getLoop h, Result.andThen_ok, run_setLoop _ h, Sem.run_pure, Loop.st]
theorem s_roundEnd {junk : List HP} (hL : L.Perm (lp l (Loop.st R .busy none) :: (LI (kk + 1) ++ junk))) : J ⟨X, some l, w0, N, n, QY P w0 N l R LI LS kk⟩ ds ρ L [] := by
  intro a w ha hw
  have hw' := hw.perm hL
  refine ⟨_, _, run_endRound hw'.at none, .bool true, [LI' l R LI (kk + 1)], rfl, .inl ⟨rfl, rfl⟩, ?_⟩
  have := hw'.setObj (.loop (Loop.st (Loop.st R .busy none) .ready none))
  have h2 : Sat w0 N ((lp l (Loop.st R .ready none) :: LI (kk + 1)) ++ junk) _ := this
  exact (Sat.group (R := [])).2 (by rw [List.append_nil]; exact h2.left)
theorem roundLeft {base : World} {M : Nat → Prop} {junk : List HP} {w : World} (t : τ) {c : Code} (ht : c = (LS t).1) (h : Sat base M (pt l (.loop (Loop.st (Loop.st R s p) .done (some c))) :: ((LS t).2 ++ junk)) w) : Sat base M [LS' l R LS] w := by
  subst ht
  have h2 : Sat base M ((lp l (Loop.st R .done (some (LS t).1)) :: (LS t).2) ++ junk) w := h
  have h3 := (Sat.group (R := [])).2 (show Sat base M ((lp l (Loop.st R .done (some (LS t).1)) :: (LS t).2) ++ []) w by rw [List.append_nil]; exact h2.left)
  exact h3.imp fun k hk => ⟨t, hk⟩
theorem s_roundOut {junk : List HP} {id : Nat} {k : List It} (t : τ) (e : It.to id k = none) (ht : (LS t).1 = .exit id) (hL : L.Perm (lp l (Loop.st R .busy none) :: ((LS t).2 ++ junk))) : J ⟨X, some l, w0, N, n, QY P w0 N l R LI LS kk⟩ ds ρ L (.code (.exit id) :: k) := by
  refine s_out e fun a w ha hw => ?_
  have hw' := hw.perm hL
  refine ⟨_, _, run_endRound hw'.at (some (.exit id)), .bool false, [LS' l R LS], rfl, .inr ⟨rfl, rfl⟩, ?_⟩
  have := hw'.setObj (.loop (Loop.st (Loop.st R .busy none) .done (some (.exit id))))
  exact roundLeft t ht.symm this
theorem s_roundRet {junk : List HP} {k : List It} (t : τ) (ht : (LS t).1 = .ret) (hL : L.Perm (lp l (Loop.st R .busy none) :: ((LS t).2 ++ junk))) : J ⟨X, some l, w0, N, n, QY P w0 N l R LI LS kk⟩ ds ρ L (.code .ret :: k) := by
  refine s_ret fun a w ha hw => ?_
  have hw' := hw.perm hL
  refine ⟨_, _, run_endRound hw'.at (some .ret), .bool false, [LS' l R LS], rfl, .inr ⟨rfl, rfl⟩, ?_⟩
  have := hw'.setObj (.loop (Loop.st (Loop.st R .busy none) .done (some .ret)))
  exact roundLeft t ht.symm this
/-- The body begins. -/
def BK (P : Program) (l : Nat) (body : Code) (Q : Exit → Act → World → Prop) (a : Act) (w : World) : Prop := ∃ w₂, (Instr.beginRound l).run P w = .ok () w₂ ∧ body.wpIn (FW (some l)) 0 P Q a w₂
theorem s_begin {Q : Exit → Act → World → Prop} {M : Nat → Prop} {body : Code} {rem : List HP} {Q' : Exit → Act → World → Prop} (hL : L.Perm (lp l (Loop.st R .ready p) :: rem)) (h : J ⟨X, some l, w0, M, n, Q⟩ ds ρ (lp l (Loop.st R .busy p) :: rem) [.code body]) :
    J ⟨X, some l, w0, M, n, Q'⟩ ds ρ L [.then_ (BK P l body Q)] := by
  intro a w ha hw
  have hw' := hw.perm hL
  refine ⟨{ w with heap := w.heap.setIfInBounds l (.loop (Loop.st R .busy p)) }, ?_, ?_⟩
  · have hg := run_getLoop (P := P) hw'.at
    simp only [Instr.beginRound, Sem.run_bind, hg, Result.andThen_ok, run_setLoop _ hw'.at, Loop.st, Sem.run_pure]
  · have := h a { w with heap := w.heap.setIfInBounds l (.loop (Loop.st R .busy p)) } ha (hw'.setObj _)
    exact this
/-- The slots of a round. -/
def setps : List Tmp → List Value → Env → Env
  | t :: ts, v :: vs, ρ => setps ts vs ((t, v) :: ρ)
  | _, _, ρ => ρ
theorem Env.ok.setps {n : Nat} {ds : List Deferred} : ∀ {ts : List Tmp} {vs : List Value} {ρ : Env} {tmps : Array Value}, Env.ok n ds ρ ⟨tmps, ds⟩ → ts.all (fun t => Nat.ble (t + 1) n) = true →
    Env.ok n ds (setps ts vs ρ) ⟨(ts.zip vs).foldl (fun tmps x => tmps.setIfInBounds x.1 x.2) tmps, ds⟩
  | [], _, ρ, tmps, h, _ => by unfold Go.E.setps; exact h
  | t :: ts, [], ρ, tmps, h, _ => by unfold Go.E.setps; simpa using h
  | t :: ts, v :: vs, ρ, tmps, h, ht => by
    simp only [List.all_cons, Bool.and_eq_true] at ht
    unfold Go.E.setps
    simp only [List.zip_cons_cons, List.foldl_cons]
    exact Env.ok.setps (h.put ht.1 v) ht.2
end
/-- The mark of a loop that was ranged over. -/
def mk (D : Nat) : Deferred := { target := .collected D, args := #[] }
def dm (D : Nat) : HP := pt D (.deferred (some []))
section
variable {P : Program} {fr : Fr P} {ds : List Deferred} {ρ : Env} {L : List HP} {k : List It}
theorem run_endLoop {l : Nat} {w : World} {R : Loop} (h : w.heap[l]? = some (.loop R)) (hb : R.state ≠ .busy) : (Instr.endLoop l).run P w = .ok R.pending { w with heap := w.heap.setIfInBounds l (.loop { R with state := .exhausted }) } := by
  simp [Instr.endLoop, run_getLoop h, run_setLoop _ h, hb]
theorem s_range {τ : Type} {g : Operand} {ps : List Tmp} {assign body : Code} {f : FuncId} {caps : List Value} {rem : List HP} (hr : fr.r = none) (hg : ρ.ev g = some (.func (.func f) #[] caps.toArray)) (hf : fr.X.has f = true)
    (LI : Nat → List HP) (LS : τ → Code × List HP) (av : Nat → List Value) (dom fin : Nat → Prop) (hL : L.Perm (LI 0 ++ rem)) (hav : ∀ k, (av k).length = ps.length) (hps : ps.all (fun t => Nat.ble (t + 1) fr.n) = true)
    (hiter : ∀ l R w0 N0, Owns w0 [LI' l R LI 0] N0 → (∀ w', Since w0 N0 w' → Sat fr.base fr.M rem w') →
      (∀ k w N, dom k → Owns w [LI' l R LI k] N → (∀ w', Since w N w' → Since w0 N0 w') → RetY P l (av k) w N (RY l R LI LS k)) →
      Ret P f (.func (.yield l) #[] #[] :: caps) w0 N0 fun _ L' => (∃ k, fin k ∧ L' = [LI' l R LI k]) ∨ L' = [LS' l R LS])
    (hassign : ∀ l R w N k, dom k → (∀ w', Since w N w' → Sat fr.base fr.M rem w') → J ⟨fr.X, some l, w, N, fr.n, fun _ _ _ => False⟩ [] (setps ps (av k) ρ) (lp l (Loop.st R .ready none) :: LI k) [.code assign, .then_ (BK P l body (QY P w N l R LI LS k))])
    (hdone : ∀ D k', fin k' → J fr (mk D :: ds) ρ (dm D :: (LI k' ++ rem)) k)
    (hleft : ∀ D t, J fr (mk D :: ds) ρ (dm D :: ((LS t).2 ++ rem)) (.code (LS t).1 :: k)) :
    J fr ds ρ L (.code (.rangeFunc g ps.toArray assign body) :: k) := by
  intro a w ha hw
  have hFW : FW fr.r = Fence.wide := by rw [hr]; rfl
  show (Code.rangeFunc g ps.toArray assign body).wpIn (FW fr.r) 0 P (post fr k) a w
  refine wpIn_rangeFunc fun fn _ => ?_
  let D := w.heap.size
  let l := w.heap.size + 1
  let R : Loop := { state := .ready, pending := none, fn := fn, tmps := a.tmps, params := ps.toArray, assign := assign, body := body, defers := D }
  let w1 := (w.alloc (.deferred (some []))).alloc (.loop R)
  have hw1 : Sat fr.base fr.M (lp l (Loop.st R .ready none) :: dm D :: L) w1 := by
    have h1 := hw.alloc (.deferred (some []))
    have h2 := h1.alloc (.loop R)
    have hsz : (w.alloc (.deferred (some []))).heap.size = l := by simp [l]
    rw [hsz] at h2
    exact h2
  refine ⟨l, [mk D], w1, ⟨.fn (.func f) caps.toArray, #[.func (.yield l) #[] #[]]⟩, w1, f, (.func (.yield l) #[] #[] :: caps).toArray, w1, ?_, ?_, fun _ _ => trivial, ?_, fun x => absurd x (by simp [FW, Fence.wide]), ?_⟩
  · have hro : (FW fr.r).round = none := hr
    rw [hro]
    simp [Instr.enterLoop, w1, l, D, R, mk]
  · simp only [resolve, ha.ev hg, Deferred.ofValue]
    simp [Act.eval]
  · have := run_callFunc (args := (Value.func (.yield l) #[] #[] :: caps).toArray) (w := w1) (fr.X.call hf)
    simpa [invoke] using this
  · -- the call
    have hw2 : Sat fr.base fr.M ([LI' l R LI 0] ++ (dm D :: rem)) w1 := by
      have hp : (lp l (Loop.st R .ready none) :: dm D :: L).Perm ((lp l (Loop.st R .ready none) :: LI 0) ++ (dm D :: rem)) := by
        refine List.Perm.cons _ ?_
        exact (List.Perm.cons _ hL).trans (List.perm_middle.symm)
      exact Sat.group.2 (hw1.perm hp)
    obtain ⟨N0, ho, hframe, hl0⟩ := hw2.framed
    have hl : ∀ w', Since w1 N0 w' → Sat fr.base fr.M rem w' := fun w' h' => by
      have := hl0 w' h'
      exact (this.perm (List.perm_append_comm (l₁ := [dm D]) (l₂ := rem))).left
    have hcall := hiter l R w1 N0 ho hl (fun k' wr N hk hown hsn => by
      refine ⟨fn, (ps.zip (av k')).foldl (fun tmps x => tmps.setIfInBounds x.1 x.2) a.tmps, assign, body, ?_, ?_⟩
      · -- yield finds the record
        have hat : wr.heap[l]? = some (.loop (Loop.st R .ready none)) := (Owns.sat hown |> Sat.group.1 |>.at)
        have hlen : (av k').toArray.size = (Loop.st R .ready none).params.size := by simp [Loop.st, R, hav k']
        simp only [Instr.yield, Sem.run_bind, run_getLoop hat, Result.andThen_ok]
        rw [if_neg (by rw [hlen]; simp)]
        simp [Loop.st, R]
      · refine roundIn_of_wpIn (F := Fence.wide) trivial ?_
        have hsat : Sat wr N (lp l (Loop.st R .ready none) :: LI k') wr := by
          have := Sat.group.1 (Owns.sat hown)
          simpa using this
        have hJ := hassign l R wr N k' hk (fun w' h' => hl w' (hsn w' h')) ⟨(ps.zip (av k')).foldl (fun tmps x => tmps.setIfInBounds x.1 x.2) a.tmps, []⟩ wr (Env.ok.setps (ds := []) ⟨ha.size, rfl, ha.get⟩ hps) hsat
        change assign.wpIn (FW (some l)) 0 P _ _ wr at hJ
        refine wpIn_mono hJ fun e a1 w1' hq => ?_
        cases e with
        | normal => exact hq
        | _ => exact hq.elim)
    have key : Ret P f (.func (.yield l) #[] #[] :: caps) w1 N0 fun _ L' => (∃ k, fin k ∧ L' = [LI' l R LI k]) ∨ L' = [LS' l R LS] := hcall
    have key2 : CallsIn Fence.wide (0 - 1) P f (.func (.yield l) #[] #[] :: caps).toArray w1 (rangePost (FW fr.r) 0 P l (post fr k) { a with defers := [mk D] ++ a.defers }) := by
      refine (callsIn_wide (n := 0 - 1)).2 (Calls.mono key ?_)
      rintro e w' ⟨v, L', rfl, hR, hS⟩
      have ha' : Env.ok fr.n (mk D :: ds) ρ { a with defers := [mk D] ++ a.defers } := ⟨ha.size, by simp [ha.defers], ha.get⟩
      rcases hR with ⟨k', hk', rfl⟩ | rfl
      · have h3 := hframe _ _ hS
        have h4 : Sat fr.base fr.M (lp l (Loop.st R .ready none) :: (LI k' ++ (dm D :: rem))) w' := Sat.group.1 h3
        refine ⟨none, _, run_endLoop h4.at (by simp [Loop.st]), ?_⟩
        have h5 := h4.setObj (.loop { Loop.st R .ready none with state := .exhausted })
        refine hdone D k' hk' _ _ ha' ?_
        have h6 := (h5.perm (List.perm_append_comm (l₁ := [pt l (.loop { Loop.st R .ready none with state := .exhausted })]) (l₂ := LI k' ++ (dm D :: rem)))).left
        exact h6.perm List.perm_middle
      · have h3 := hframe _ _ hS
        obtain ⟨hp, ⟨h1, h2, ⟨t, ht⟩, s2, d2, rfl⟩, hin, hle⟩ := h3.hp
        have h4 : Sat fr.base fr.M (lp l (Loop.st R .done (some (LS t).1)) :: ((LS t).2 ++ (dm D :: rem))) w' :=
          Sat.group.1 ⟨⟨_, ⟨h1, h2, ht, s2, d2, rfl⟩, hin, hle⟩, h3.since⟩
        refine ⟨some (LS t).1, _, run_endLoop h4.at (by simp [Loop.st]), ?_⟩
        have h5 := h4.setObj (.loop { Loop.st R .done (some (LS t).1) with state := .exhausted })
        have h6 := (h5.perm (List.perm_append_comm (l₁ := [pt l (.loop { Loop.st R .done (some (LS t).1) with state := .exhausted })]) (l₂ := (LS t).2 ++ (dm D :: rem)))).left
        exact hleft D t _ _ ha' (h6.perm List.perm_middle)
    rw [hFW] at key2 ⊢
    exact key2

/-! ### A function's end behind such loops -/
def dms (Ds : List Nat) : HP := star (Ds.map dm)
theorem dms_cons {D : Nat} {Ds : List Nat} {R : List HP} {base : World} {M : Nat → Prop} {w : World} (h : Sat base M (dm D :: dms Ds :: R) w) : Sat base M (dms (D :: Ds) :: R) w := by
  have h1 := (Sat.group (K := [dm D] ++ Ds.map dm) (R := R)).2 (by
    have := Sat.group.1 (h.perm (List.Perm.swap _ _ _))
    exact this.perm List.perm_middle)
  exact h1
theorem J.marks {D : Nat} {Ds : List Nat} {R : List HP} (h : J fr ds ρ (dms (D :: Ds) :: R) k) : J fr ds ρ (dm D :: dms Ds :: R) k := fun a w ha hw => h a w ha (dms_cons hw)
theorem run_take {D : Nat} {w : World} (h : w.heap[D]? = some (.deferred (some []))) : (Instr.takeDeferred D).run P w = .ok [] { w with heap := w.heap.setIfInBounds D (.deferred none) } := by
  simp [Instr.takeDeferred, getObj, setObj, Sem.run, h]
theorem leavesM {base : World} {M : Nat → Prop} {fn : Func} {tmps : Array Value} {R : Ending → World → Prop} {K : List HP} : ∀ (Ds : List Nat) (w : World), Sat base M (Ds.map dm ++ K) w →
    (∀ w', Sat base M K w' → ∃ v, (results fn tmps).run P w' = .ok v w' ∧ R (.returned v) w') → LeavesInM Fence.wide 0 P fn tmps R (Ds.map mk) .returning w
  | [], w, h, hf => hf w h
  | D :: Ds, w, h, hf => by
    have h1 : Sat base M (pt D (.deferred (some [])) :: (Ds.map dm ++ K)) w := h
    refine ⟨by simp, .inl ⟨D, _, rfl, run_take h1.at, ?_⟩⟩
    have h2 := (h1.setObj (.deferred none)).perm (List.perm_append_comm (l₁ := [pt D (.deferred none)]) (l₂ := Ds.map dm ++ K))
    exact leavesM Ds _ h2.left hf
theorem s_returnM {X : Cx P} {base : World} {M : Nat → Prop} {n : Nat} {fn : Func} {R : Value → List HP → Prop} {v : Value} {Ds : List Nat} {K L' junk : List HP} (hR : R v L') (hds : ds = Ds.map mk) [hD : Pl (dms Ds) L K] [hL : Tk L' K junk]
    (hv : Res ⟨X, none, base, M, n, bodyPostM (FW none) 0 P fn fun e w' => ∃ v L', e = .returned v ∧ R v L' ∧ Sat base M L' w'⟩ ds ρ K fn v) :
    J ⟨X, none, base, M, n, bodyPostM (FW none) 0 P fn fun e w' => ∃ v L', e = .returned v ∧ R v L' ∧ Sat base M L' w'⟩ ds ρ L (.code .ret :: k) := by
  refine s_ret fun a w ha hw => ?_
  show LeavesInM Fence.wide 0 P fn a.tmps _ a.defers .returning w
  rw [ha.defers, hds]
  exact leavesM Ds w (Sat.group.1 (hw.perm hD.perm)) fun w' hw' => ⟨v, hv a w' ha hw', v, L', rfl, hR, (hw'.perm hL.perm).left⟩
theorem s_return1 {X : Cx P} {base : World} {M : Nat → Prop} {n : Nat} {fn : Func} {R : Value → List HP → Prop} {v : Value} {D : Nat} {K L' junk : List HP} (hR : R v L') [hD : Pl (dm D) L K] [hL : Tk L' K junk]
    (hv : Res ⟨X, none, base, M, n, bodyPostM (FW none) 0 P fn fun e w' => ∃ v L', e = .returned v ∧ R v L' ∧ Sat base M L' w'⟩ [mk D] ρ K fn v) :
    J ⟨X, none, base, M, n, bodyPostM (FW none) 0 P fn fun e w' => ∃ v L', e = .returned v ∧ R v L' ∧ Sat base M L' w'⟩ [mk D] ρ L (.code .ret :: k) := by
  refine s_ret fun a w ha hw => ?_
  show LeavesInM Fence.wide 0 P fn a.tmps _ a.defers .returning w
  rw [ha.defers]
  exact leavesM [D] w (hw.perm hD.perm) fun w' hw' => ⟨v, hv a w' ha hw', v, L', rfl, hR, (hw'.perm hL.perm).left⟩
theorem s_end1 {X : Cx P} {base : World} {M : Nat → Prop} {n : Nat} {fn : Func} {R : Value → List HP → Prop} {v : Value} {D : Nat} {K L' junk : List HP} (hR : R v L') [hD : Pl (dm D) L K] [hL : Tk L' K junk]
    (hv : Res ⟨X, none, base, M, n, bodyPostM (FW none) 0 P fn fun e w' => ∃ v L', e = .returned v ∧ R v L' ∧ Sat base M L' w'⟩ [mk D] ρ K fn v) :
    J ⟨X, none, base, M, n, bodyPostM (FW none) 0 P fn fun e w' => ∃ v L', e = .returned v ∧ R v L' ∧ Sat base M L' w'⟩ [mk D] ρ L [] := by
  intro a w ha hw
  show LeavesInM Fence.wide 0 P fn a.tmps _ a.defers .returning w
  rw [ha.defers]
  exact leavesM [D] w (hw.perm hD.perm) fun w' hw' => ⟨v, hv a w' ha hw', v, L', rfl, hR, (hw'.perm hL.perm).left⟩
/-! ### Loops whose rounds leave marks -/
def HeadD {σ : Type} (fr : Fr P) (dsI : σ → List Deferred) (ρI : σ → Env) (LI : σ → List HP) (φ : σ → Prop) (μ : σ → Nat) (m : Nat) (a : Act) (w : World) : Prop :=
  ∃ s, φ s ∧ μ s < m ∧ Env.ok fr.n (dsI s) (ρI s) a ∧ Sat fr.base fr.M (LI s) w
theorem s_loopD {σ : Type} {c : Code} (dsI : σ → List Deferred) (ρI : σ → Env) (LI : σ → List HP) (φ : σ → Prop) (μ : σ → Nat) (s0 : σ) {junk : List HP} (hd : ds = dsI s0) (hρ : Env.sub (ρI s0) ρ) (hL : L.Perm (LI s0 ++ junk)) (h0 : φ s0)
    (round : ∀ s, φ s → J fr (dsI s) (ρI s) (LI s) (.code c :: .inv (HeadD fr dsI ρI LI φ μ (μ s)) :: k)) : J fr ds ρ L (.code (.loop c) :: k) := by
  intro a w ha hw
  subst hd
  refine wpIn_loop_ghost (fun s a w => φ s ∧ Env.ok fr.n (dsI s) (ρI s) a ∧ Sat fr.base fr.M (LI s) w) μ s0 ⟨h0, ha.sub hρ, (hw.perm hL).left⟩ ?_
  rintro s a w ⟨hs, ha, hw⟩
  refine wpIn_mono (round s hs a w ha hw) ?_
  rintro e a w hq
  cases e with
  | normal => obtain ⟨s', h1, h2, h3, h4⟩ := hq; exact ⟨s', ⟨h1, h3, h4⟩, h2⟩
  | _ => exact hq
theorem s_invD {σ : Type} {dsI : σ → List Deferred} {ρI : σ → Env} {LI : σ → List HP} {φ : σ → Prop} {μ : σ → Nat} {m : Nat} (s : σ) {junk : List HP} (hs : φ s) (hμ : μ s < m) (hd : ds = dsI s) (hρ : Env.sub (ρI s) ρ) (hL : L.Perm (LI s ++ junk)) :
    J fr ds ρ L (.inv (HeadD fr dsI ρI LI φ μ m) :: k) := fun _ _ ha hw => by subst hd; exact ⟨s, hs, hμ, ha.sub hρ, (hw.perm hL).left⟩
/-! ### What is true without memory -/
def pu (p : Prop) : HP := fun h => p ∧ h = Hp.emp
theorem J.pu {p : Prop} (h : p → J fr ds ρ L k) : J fr ds ρ (Go.E.pu p :: L) k := by
  intro a w ha hw
  obtain ⟨hp, ⟨h1, h2, ⟨hpp, rfl⟩, s2, _, rfl⟩, hin, hle⟩ := hw.hp
  exact h hpp a w ha ⟨⟨h2, s2, hin, hle⟩, hw.since⟩
theorem J.puI {p : Prop} (hp : p) (h : J fr ds ρ (Go.E.pu p :: L) k) : J fr ds ρ L k := fun a w ha hw => h a w ha (hw.emp ⟨hp, rfl⟩)
/-- What an item tells. -/
theorem J.fact {A : HP} {p : Prop} (f : ∀ h, A h → p) (h : p → J fr ds ρ (A :: L) k) : J fr ds ρ (A :: L) k := by
  intro a w ha hw
  obtain ⟨hp, ⟨h1, h2, ha1, _⟩, _⟩ := hw.hp
  exact h (f h1 ha1) a w ha hw
theorem J.perm {L' : List HP} (p : L.Perm L') (h : J fr ds ρ L' k) : J fr ds ρ L k := fun a w ha hw => h a w ha (hw.perm p)
theorem J.group {K R : List HP} : J fr ds ρ (star K :: R) k ↔ J fr ds ρ (K ++ R) k := ⟨fun h a w ha hw => h a w ha (Sat.group.2 hw), fun h a w ha hw => h a w ha (Sat.group.1 hw)⟩
theorem J.env {σ : Env} (s : Env.sub σ ρ) (h : J fr ds σ L k) : J fr ds ρ L k := fun a w ha hw => h a w (ha.sub s) hw
theorem star_pu2 {A : HP} {p : Prop} {R : List HP} {h : Hp} (s : star (A :: pu p :: R) h) : p := by
  obtain ⟨_, _, _, ⟨_, _, ⟨hp, _⟩, _⟩, _⟩ := s
  exact hp
theorem res_none {fn : Func} (h : fn.results = #[]) : Res fr ds ρ L fn (.tuple #[]) := fun a w _ _ => by rw [results_none h]
/-- A result that lies in a cell. -/
theorem res_cell {fn : Func} {t T T' b : Nat} {v : Value} {i : TI} {l : List Value} (h : fn.results = #[.cell t T]) (ht : ρ.get t = some (.pointer (some ⟨b, 0, none⟩))) [hm : HasB b T' l L] (hT : fr.X.tab[T]? = some (some i)) (hi : i.ty.agg = false) (hv : l[0]? = some v) : Res fr ds ρ L fn v := fun a w ha hw => by
  have hg := ha.get t _ ht
  rw [Array.getD_eq_getD_getElem?] at hg
  have h1 := run_isAgg (w := w) (fr.X.ti hT)
  have hc : w.cell? ⟨b, 0, none⟩ = some v := hw.cbcell hm.mem hv
  simp [results, h, hg, asAddr, loadVar, h1, hi, load, Sem.run, hc]
theorem res_cellN {fn : Func} {t T T' b : Nat} {i : TI} {l : List Value} (h : fn.results = #[.cell t T]) (ht : ρ.get t = some (.pointer (some ⟨b, 0, none⟩))) [hm : HasB b T' l L] (hT : fr.X.tab[T]? = some (some i)) (hi : i.ty.agg = true) (hn : l.length = i.size) : Res fr ds ρ L fn (.agg l.toArray) := fun a w ha hw => by
  have hg := ha.get t _ ht
  rw [Array.getD_eq_getD_getElem?] at hg
  have h1 := run_isAgg (w := w) (fr.X.ti hT)
  have h2 := run_sizeOf (w := w) (fr.X.ti hT)
  have h3 := loadCells_at (P := P) (w := w) (ad := ⟨b, 0, none⟩) (vs := l) (fun j v hj => by rw [addr_add, Nat.zero_add]; exact hw.cbcell hm.mem hj)
  rw [hn] at h3
  simp [results, h, hg, asAddr, loadVar, h1, h2, hi, h3]
theorem res_cellN2 {fn : Func} {t u T T' b : Nat} {i : TI} {l : List Value} {v' : Value} (h : fn.results = #[.cell t T, .tmp u]) (ht : ρ.get t = some (.pointer (some ⟨b, 0, none⟩))) (hu : ρ.get u = some v') [hm : HasB b T' l L] (hT : fr.X.tab[T]? = some (some i)) (hi : i.ty.agg = true) (hn : l.length = i.size) : Res fr ds ρ L fn (.tuple #[.agg l.toArray, v']) := fun a w ha hw => by
  have hg := ha.get t _ ht
  have hg' := ha.get u _ hu
  rw [Array.getD_eq_getD_getElem?] at hg hg'
  have h1 := run_isAgg (w := w) (fr.X.ti hT)
  have h2 := run_sizeOf (w := w) (fr.X.ti hT)
  have h3 := loadCells_at (P := P) (w := w) (ad := ⟨b, 0, none⟩) (vs := l) (fun j v hj => by rw [addr_add, Nat.zero_add]; exact hw.cbcell hm.mem hj)
  rw [hn] at h3
  simp [results, h, hg, hg', asAddr, loadVar, h1, h2, hi, h3]
end
end Go.E

/- The proof kit 'E', part 7: maps. -/
namespace Go.E
open Go Go.RowKit
/-! ### Keys -/
/-- What is asked of a type of keys: how a key stands as a value, that looking one up and keeping one goes through. -/
structure KT (P : Program) (T : TypeId) {κ : Type} [DecidableEq κ] (ke : κ → Value) : Prop where
  chk : ∀ b k w, (Instr.checkKey b 10000 T (ke k)).run P w = .ok () w
  find : ∀ k (ks : List κ) (es : List MapEntry) w, es.map (·.key) = ks.map ke → (Instr.findKey T (ke k) es).run P w = .ok ((ks.idxOf? k).bind fun i => (es[i]?).map fun e => (i, e.val)) w
  stay : ∀ k, Instr.sameBits 10000 (ke k) (ke k) = true
theorem idxOf?_cons' {κ : Type} [DecidableEq κ] (a k : κ) (ks : List κ) : (a :: ks).idxOf? k = if a = k then some 0 else (ks.idxOf? k).map (· + 1) := by
  rw [List.idxOf?_cons]
  by_cases h : a = k <;> simp [h]
theorem findNow_int (k : Int) : ∀ (ks : List Int) (es : List MapEntry) (n : Nat), es.map (·.key) = ks.map (Value.int .i64) →
    Instr.findNow (.int .i64) (.int .i64 k) es n = some ((ks.idxOf? k).bind fun i => (es[i]?).map fun e => (n + i, e.val))
  | [], [], n, _ => by simp [Instr.findNow]
  | a :: ks, e :: es, n, h => by
    simp only [List.map_cons, List.cons.injEq] at h
    have ih := findNow_int k ks es (n + 1) h.2
    simp only [Instr.findNow, h.1, Instr.sameNow, if_true, idxOf?_cons']
    by_cases hk : k = a
    · subst hk; simp
    · have hne : (k == a) = false := by simpa using hk
      rw [hne]
      simp only [ih, if_neg (Ne.symm hk)]
      cases ks.idxOf? k with
      | none => simp
      | some i => simp [Nat.add_assoc, Nat.add_comm 1 i]
  | [], _ :: _, _, h => by simp at h
  | _ :: _, [], _, h => by simp at h
theorem sb_int (n : Nat) (k : IntKind) (a : Int) : Instr.sameBits n (.int k a) (.int k a) = true := by cases n <;> simp [Instr.sameBits]
theorem ck_int {P : Program} {T : TypeId} (h : P.underlying T = some (.int .i64)) (n : Nat) (b : Bool) (k : Int) (w : World) : (Instr.checkKey b (n + 1) T (.int .i64 k)).run P w = .ok () w := by simp [Instr.checkKey, run_underlying h]
theorem kt_int {P : Program} {T : TypeId} (h : P.underlying T = some (.int .i64)) : KT P T (Value.int .i64) where
  chk b k w := ck_int h 9999 b k w
  find k ks es w he := by
    have := findNow_int k ks es 0 he
    simp only [Nat.zero_add] at this
    simp [Instr.findKey, run_underlying h, this]
  stay k := sb_int _ _ _
/-! ### A map that is owned -/
section pure
variable {κ β : Type} [DecidableEq κ]
def mget (k : κ) : List (κ × β) → Option β
  | [] => none
  | (a, b) :: r => if a = k then some b else mget k r
def mset (k : κ) (v : β) : List (κ × β) → List (κ × β)
  | [] => [(k, v)]
  | (a, b) :: r => if a = k then (k, v) :: r else (a, b) :: mset k v r
def mdel (k : κ) : List (κ × β) → List (κ × β)
  | [] => []
  | (a, b) :: r => if a = k then r else (a, b) :: mdel k r
theorem mget_mset (k k' : κ) (v : β) : ∀ m : List (κ × β), mget k' (mset k v m) = if k = k' then some v else mget k' m
  | [] => by simp only [mset, mget]
  | (a, b) :: r => by
    simp only [mset]
    by_cases h : a = k
    · subst h; by_cases h2 : a = k' <;> simp [mget, h2]
    · rw [if_neg h]
      simp only [mget, mget_mset k k' v r]
      by_cases h2 : a = k'
      · subst h2; rw [if_pos rfl, if_pos rfl, if_neg (Ne.symm h)]
      · rw [if_neg h2, if_neg h2]
theorem mset_keys (k : κ) (v : β) : ∀ m : List (κ × β), (mset k v m).map (·.1) = if k ∈ m.map (·.1) then m.map (·.1) else m.map (·.1) ++ [k]
  | [] => by simp [mset]
  | (a, b) :: r => by
    simp only [mset]
    by_cases h : a = k
    · subst h; simp
    · rw [if_neg h]
      simp only [List.map_cons, mset_keys k v r, List.mem_cons]
      by_cases h2 : k ∈ r.map (·.1)
      · rw [if_pos h2, if_pos (.inr h2)]
      · rw [if_neg h2, if_neg (by rintro (x | x); exact h x.symm; exact h2 x)]; rfl
theorem mset_nodup (k : κ) (v : β) (m : List (κ × β)) (h : (m.map (·.1)).Nodup) : ((mset k v m).map (·.1)).Nodup := by
  rw [mset_keys]
  split
  · exact h
  · rename_i hk; rw [List.nodup_append]; exact ⟨h, by simp, by rintro a ha b hb rfl; simp at hb; subst hb; exact hk ha⟩
theorem mdel_sub (k : κ) : ∀ m : List (κ × β), (mdel k m).Sublist m
  | [] => List.Sublist.refl _
  | (a, b) :: r => by
    simp only [mdel]
    split
    · exact List.sublist_cons_self _ _
    · exact (mdel_sub k r).cons_cons _
theorem mdel_nodup (k : κ) (m : List (κ × β)) (h : (m.map (·.1)).Nodup) : ((mdel k m).map (·.1)).Nodup := h.sublist ((mdel_sub k m).map _)
theorem mget_none {k : κ} : ∀ {m : List (κ × β)}, mget k m = none ↔ k ∉ m.map (·.1)
  | [] => by simp [mget]
  | (a, b) :: r => by
    simp only [mget, List.map_cons, List.mem_cons, not_or]
    by_cases h : a = k
    · subst h; simp
    · rw [if_neg h, mget_none]; exact ⟨fun x => ⟨Ne.symm h, x⟩, fun x => x.2⟩
theorem mget_mdel (k k' : κ) (m : List (κ × β)) (h : (m.map (·.1)).Nodup) : mget k' (mdel k m) = if k = k' then none else mget k' m := by
  induction m with
  | nil => simp [mdel, mget]
  | cons p r ih =>
    obtain ⟨a, b⟩ := p
    simp only [List.map_cons, List.nodup_cons] at h
    simp only [mdel]
    by_cases h1 : a = k
    · subst h1
      rw [if_pos rfl]
      by_cases h2 : a = k'
      · subst h2; rw [if_pos rfl]; exact mget_none.2 h.1
      · rw [if_neg h2]; simp [mget, h2]
    · rw [if_neg h1]
      simp only [mget, ih h.2]
      by_cases h2 : a = k'
      · subst h2; rw [if_pos rfl, if_neg (Ne.symm h1), if_pos rfl]
      · rw [if_neg h2, if_neg h2]
theorem idx_get (k : κ) : ∀ (m : List (κ × β)), ((m.map (·.1)).idxOf? k).bind (fun i => (m.map (·.2))[i]?) = mget k m
  | [] => by simp [mget]
  | (a, b) :: r => by
    simp only [List.map_cons, idxOf?_cons', mget]
    by_cases h : a = k
    · simp [h]
    · rw [if_neg h, if_neg h, ← idx_get k r]
      cases (r.map (·.1)).idxOf? k with
      | none => rfl
      | some i => simp
end pure
/-- Block b is a map that reads as m; no key twice. -/
def Mp {κ : Type} (ke : κ → Value) (b : Nat) (m : List (κ × Value)) : HP := fun h => ∃ es clock, h = Hp.one b (.map es clock) ∧ es.toList.map (·.key) = m.map (fun p => ke p.1) ∧ es.toList.map (·.val) = m.map (·.2) ∧
  (m.map (·.1)).Nodup ∧ (∀ e ∈ es.toList, e.born < clock) ∧ (es.toList.map (·.born)).Nodup
theorem Sat.mp {κ : Type} {ke : κ → Value} {base : World} {M : Nat → Prop} {L : List HP} {b : Nat} {m : List (κ × Value)} {w : World} (h : Sat base M L w) (hm : Mp ke b m ∈ L) :
    ∃ es clock, w.heap[b]? = some (.map es clock) ∧ es.toList.map (·.key) = m.map (fun p => ke p.1) ∧ es.toList.map (·.val) = m.map (·.2) ∧ (m.map (·.1)).Nodup ∧ (∀ e ∈ es.toList, e.born < clock) ∧ (es.toList.map (·.born)).Nodup := by
  obtain ⟨k, ⟨es, clock, rfl, h1, h2, h3, h4, h5⟩, i⟩ := h.has hm
  exact ⟨es, clock, i b _ (by simp [Hp.one]), h1, h2, h3, h4, h5⟩
theorem run_getMap {P : Program} {w : World} {b : Nat} {es : Array MapEntry} {clock : Nat} (h : w.heap[b]? = some (.map es clock)) : (getObj b).run P w = .ok (.map es clock) w := by simp [getObj, Sem.run, h]
theorem run_setMap {P : Program} {w : World} {b : Nat} {es : Array MapEntry} {clock : Nat} (o : Obj) (h : w.heap[b]? = some (.map es clock)) : (setObj b o).run P w = .ok () { w with heap := w.heap.setIfInBounds b o } := by simp [setObj, Sem.run, h]
class HasM {κ : Type} (ke : outParam (κ → Value)) (b : Nat) (m : outParam (List (κ × Value))) (L : List HP) : Prop where
  mem : Mp ke b m ∈ L
instance {κ : Type} (ke : κ → Value) (b : Nat) (m : List (κ × Value)) (L : List HP) : HasM ke b m (Mp ke b m :: L) := ⟨List.mem_cons_self⟩
instance (priority := low) {κ : Type} (ke : κ → Value) (b : Nat) (m : List (κ × Value)) (A : HP) (L : List HP) [h : HasM ke b m L] : HasM ke b m (A :: L) := ⟨List.mem_cons_of_mem _ h.mem⟩
class UpdM {κ : Type} (ke : outParam (κ → Value)) (b : Nat) (m : outParam (List (κ × Value))) (L : List HP) (rem : outParam (List HP)) : Prop where
  perm : L.Perm (Mp ke b m :: rem)
instance {κ : Type} (ke : κ → Value) (b : Nat) (m : List (κ × Value)) (L : List HP) : UpdM ke b m (Mp ke b m :: L) L := ⟨List.Perm.refl _⟩
instance (priority := low) {κ : Type} (ke : κ → Value) (b : Nat) (m : List (κ × Value)) (A : HP) (L rem : List HP) [h : UpdM ke b m L rem] : UpdM ke b m (A :: L) (A :: rem) :=
  ⟨(List.Perm.cons A h.perm).trans (List.Perm.swap _ _ _)⟩
def zval (i : TI) : Value := bif i.ty.agg then .agg i.zero.toArray else i.zero.headD undef
theorem run_zval {P : Program} {t : TypeId} {i : TI} {w : World} (h : TI.of P t = some i) (hn : i.ty.agg = true ∨ i.zero.length = 1 ∧ Value.one (i.zero.headD undef) = true) : (zeroValue t).run P w = .ok (zval i) w := by
  obtain ⟨d, inf, z, h1, h2, h3, h4, h5, h6, h7, h8⟩ := TI.of_spec' h
  have hz : (zeroValue t).run P w = .ok z w := by simp [zeroValue, typeInfo, h2, h3]
  rw [hz]
  congr 1
  unfold zval
  cases ha : i.ty.agg with
  | true =>
    rw [ha] at h8
    cases z <;> simp [isAggV] at h8
    rename_i cs
    simp only [Value.cells] at h7
    rw [← h7]; rfl
  | false =>
    rw [ha] at h8 hn
    rcases hn with x | ⟨hl, ho⟩
    · cases x
    · have : z.cells = #[z] := by cases z <;> first | rfl | (simp [isAggV] at h8)
      rw [this] at h7
      rw [← h7]; rfl
section
variable {P : Program} {fr : Fr P} {ds : List Deferred} {ρ : Env} {L : List HP} {k : List It} {ty : TypeId} {all : Array Oper} {rest : List Oper} {d : Nat} {pos : String} {af : Array Edge}
theorem Mp.new {κ : Type} (ke : κ → Value) (b : Nat) : ∀ h, pt b (.map #[] 0) h → Mp ke b [] h := fun h e => ⟨#[], 0, e, by simp, by simp, by simp, by simp, by simp⟩
theorem s_makeMap {κ : Type} {t : TypeId} (ke : κ → Value) (hd : Nat.ble (d + 1) fr.n = true) (h : ∀ b, J fr ds ((d, .map (some b)) :: ρ) (Mp ke b [] :: L) (.ops all rest :: k)) : J fr ds ρ L (.ops all (⟨some d, .makeMap t none, ty, pos, af, none⟩ :: rest) :: k) :=
  s_eff (fun c e => by cases e) hd fun a w ha hw o ho _ => by
    refine ⟨.map (some w.heap.size), w.alloc (.map #[] 0), Mp ke w.heap.size [] :: L, ?_, (hw.alloc (.map #[] 0)).imp (Mp.new ke _), h _⟩
    unfold execOp; rw [ho]; simp [Instr.makeMap]
theorem y_lookup {κ : Type} [DecidableEq κ] {ke : κ → Value} {T e : TypeId} {t : TypeId} {x y : Operand} {b : Nat} {kk : κ} {m : List (κ × Value)} {sz ib : Nat} {iv : List Value} {i : TI} {kv : Value} (hx : ρ.ev x = some (.map (some b))) (hy : ρ.ev y = some kv) [hm : HasM ke b m L] (hk : kv = ke kk) (kt : KT P T ke)
    (ht : fr.X.tab[t]? = some (some ⟨.mp T e, sz, ib, iv⟩)) (hi : fr.X.tab[e]? = some (some i)) (hz : i.ty.agg = true ∨ i.zero.length = 1 ∧ Value.one (i.zero.headD undef) = true) :
    Yd fr ds ρ L (.lookup t x y false) ty ((mget kk m).getD (zval i)) :=
  exec_v (fun c e => by cases e) fun a w ha hw _ _ _ _ => by
    subst hk
    obtain ⟨d', inf, z', g1, g2, g3, g4, g5, g6, g7⟩ := TI.of_spec (fr.X.ti ht)
    have := Ty.of_mp g4
    subst this
    obtain ⟨es, clock, hb, h1, h2, h3, h4, h5⟩ := hw.mp hm.mem
    have hf := kt.find kk (m.map (·.1)) es.toList w (by rw [h1, List.map_map]; rfl)
    have hz' := run_zval (w := w) (fr.X.ti hi) hz
    simp only [execOp, ha.ev hx, ha.ev hy, Instr.lookup, Sem.run_bind, run_underlying g1, Result.andThen_ok, run_getMap hb, Sem.run_pure, kt.chk, hf]
    have hg : mget kk m = ((m.map (·.1)).idxOf? kk).bind fun i => (es.toList.map (·.val))[i]? := by rw [h2, idx_get]
    rw [hg]
    cases hix : (m.map (·.1)).idxOf? kk with
    | none => simp [hz']
    | some j =>
      simp only [Option.bind_some, List.getElem?_map]
      cases hej : es.toList[j]? with
      | none => simp [hz']
      | some e' => simp
theorem y_lookup2 {κ : Type} [DecidableEq κ] {ke : κ → Value} {T e : TypeId} {t : TypeId} {x y : Operand} {b : Nat} {kk : κ} {m : List (κ × Value)} {sz ib : Nat} {iv : List Value} {i : TI} {kv : Value} (hx : ρ.ev x = some (.map (some b))) (hy : ρ.ev y = some kv) [hm : HasM ke b m L] (hk : kv = ke kk) (kt : KT P T ke)
    (ht : fr.X.tab[t]? = some (some ⟨.mp T e, sz, ib, iv⟩)) (hi : fr.X.tab[e]? = some (some i)) (hz : i.ty.agg = true ∨ i.zero.length = 1 ∧ Value.one (i.zero.headD undef) = true) :
    Yd fr ds ρ L (.lookup t x y true) ty (.tuple [(mget kk m).getD (zval i), .bool (mget kk m).isSome].toArray) :=
  exec_v (fun c e => by cases e) fun a w ha hw _ _ _ _ => by
    subst hk
    obtain ⟨d', inf, z', g1, g2, g3, g4, g5, g6, g7⟩ := TI.of_spec (fr.X.ti ht)
    have := Ty.of_mp g4
    subst this
    obtain ⟨es, clock, hb, h1, h2, h3, h4, h5⟩ := hw.mp hm.mem
    have hf := kt.find kk (m.map (·.1)) es.toList w (by rw [h1, List.map_map]; rfl)
    have hz' := run_zval (w := w) (fr.X.ti hi) hz
    simp only [execOp, ha.ev hx, ha.ev hy, Instr.lookup, Sem.run_bind, run_underlying g1, Result.andThen_ok, run_getMap hb, Sem.run_pure, kt.chk, hf]
    have hg : mget kk m = ((m.map (·.1)).idxOf? kk).bind fun i => (es.toList.map (·.val))[i]? := by rw [h2, idx_get]
    rw [hg]
    cases hix : (m.map (·.1)).idxOf? kk with
    | none => simp [hz']
    | some j =>
      simp only [Option.bind_some, List.getElem?_map]
      cases hej : es.toList[j]? with
      | none => simp [hz']
      | some e' => simp

theorem y_lookupV {κ : Type} [DecidableEq κ] {ke : κ → Value} {T e : TypeId} {t : TypeId} {x y : Operand} {b : Nat} {kk : κ} {m : List (κ × Value)} {sz ib : Nat} {iv : List Value} {i : TI} {kv u : Value} (hv : (mget kk m).getD (zval i) = u) (hx : ρ.ev x = some (.map (some b))) (hy : ρ.ev y = some kv) [hm : HasM ke b m L] (hk : kv = ke kk) (kt : KT P T ke)
    (ht : fr.X.tab[t]? = some (some ⟨.mp T e, sz, ib, iv⟩)) (hi : fr.X.tab[e]? = some (some i)) (hz : i.ty.agg = true ∨ i.zero.length = 1 ∧ Value.one (i.zero.headD undef) = true) :
    Yd fr ds ρ L (.lookup t x y false) ty u := by rw [← hv]; exact y_lookup hx hy hk kt ht hi hz
theorem y_lookup2V {κ : Type} [DecidableEq κ] {ke : κ → Value} {T e : TypeId} {t : TypeId} {x y : Operand} {b : Nat} {kk : κ} {m : List (κ × Value)} {sz ib : Nat} {iv : List Value} {i : TI} {kv u : Value} {bb : Bool} (hv : (mget kk m).getD (zval i) = u) (hb : (mget kk m).isSome = bb) (hx : ρ.ev x = some (.map (some b))) (hy : ρ.ev y = some kv) [hm : HasM ke b m L] (hk : kv = ke kk) (kt : KT P T ke)
    (ht : fr.X.tab[t]? = some (some ⟨.mp T e, sz, ib, iv⟩)) (hi : fr.X.tab[e]? = some (some i)) (hz : i.ty.agg = true ∨ i.zero.length = 1 ∧ Value.one (i.zero.headD undef) = true) :
    Yd fr ds ρ L (.lookup t x y true) ty (.tuple [u, .bool bb].toArray) := by rw [← hv, ← hb]; exact y_lookup2 hx hy hk kt ht hi hz
theorem keyStays {κ : Type} [DecidableEq κ] {ke : κ → Value} {T : TypeId} (kt : KT P T ke) (kk : κ) (w : World) : (Instr.keyThatStays (ke kk) (ke kk)).run P w = .ok (ke kk) w := by
  simp [Instr.keyThatStays, kt.stay kk]
theorem modify_set {κ : Type} [DecidableEq κ] {ke : κ → Value} (kk : κ) (v : Value) : ∀ (m : List (κ × Value)) (es : List MapEntry) (i : Nat), es.map (·.key) = m.map (fun p => ke p.1) → es.map (·.val) = m.map (·.2) → (m.map (·.1)).idxOf? kk = some i →
    (es.modify i fun e => { e with key := ke kk, val := v }).map (·.key) = (mset kk v m).map (fun p => ke p.1) ∧ (es.modify i fun e => { e with key := ke kk, val := v }).map (·.val) = (mset kk v m).map (·.2) ∧ (es.modify i fun e => { e with key := ke kk, val := v }).map (·.born) = es.map (·.born) ∧ (es[i]?).map (·.key) = some (ke kk)
  | [], _, _, _, _, h => by simp at h
  | (a, b) :: m, [], _, h, _, _ => by simp at h
  | (a, b) :: m, e :: es, i, h1, h2, h3 => by
    simp only [List.map_cons, List.cons.injEq] at h1 h2
    simp only [List.map_cons, idxOf?_cons'] at h3
    by_cases hk : a = kk
    · rw [if_pos hk] at h3; cases h3; subst hk
      simp [mset, h1.2, h2.2, h1.1]
    · rw [if_neg hk] at h3
      obtain ⟨j, hj, rfl⟩ := Option.map_eq_some_iff.1 h3
      obtain ⟨q1, q2, q3, q4⟩ := modify_set kk v m es j h1.2 h2.2 hj
      simp [mset, hk, h1.1, h2.1, q1, q2, q3, q4]
theorem push_set {κ : Type} [DecidableEq κ] (kk : κ) (v : Value) : ∀ (m : List (κ × Value)), (m.map (·.1)).idxOf? kk = none → mset kk v m = m ++ [(kk, v)]
  | [], _ => rfl
  | (a, b) :: m, h => by
    simp only [List.map_cons, idxOf?_cons'] at h
    by_cases hk : a = kk
    · rw [if_pos hk] at h; cases h
    · rw [if_neg hk] at h
      simp [mset, hk, push_set kk v m (by simpa using h)]
/-- The run of a map's update. -/
theorem run_mapUpdate {κ : Type} [DecidableEq κ] {ke : κ → Value} {T e t : TypeId} {base : World} {M : Nat → Prop} {L : List HP} {b : Nat} {m : List (κ × Value)} {w : World} (h : Sat base M (Mp ke b m :: L) w) (kk : κ) (v : Value) (kt : KT P T ke) (ht : P.underlying t = some (.map T e)) :
    ∃ w', (Instr.mapUpdate t (.map (some b)) (ke kk) v).run P w = .ok () w' ∧ Sat base M (Mp ke b (mset kk v m) :: L) w' := by
  obtain ⟨es, clock, hb, h1, h2, h3, h4, h5⟩ := h.mp List.mem_cons_self
  have hf := kt.find kk (m.map (·.1)) es.toList w (by rw [h1, List.map_map]; rfl)
  have hturn : ∀ (es' : Array MapEntry) (clock' : Nat), es'.toList.map (·.key) = (mset kk v m).map (fun p => ke p.1) → es'.toList.map (·.val) = (mset kk v m).map (·.2) → (∀ e ∈ es'.toList, e.born < clock') → (es'.toList.map (·.born)).Nodup →
      Sat base M (Mp ke b (mset kk v m) :: L) { w with heap := w.heap.setIfInBounds b (.map es' clock') } := fun es' clock' q1 q2 q3 q4 => by
    refine h.turn1 (fun hp hpm hin => ?_) (by simp) rfl rfl rfl
    obtain ⟨es0, c0, rfl, _⟩ := hpm
    have hlt := (Array.getElem?_eq_some_iff.1 hb).1
    refine ⟨Hp.one b (.map es' clock'), ⟨es', clock', rfl, q1, q2, mset_nodup _ _ _ h3, q3, q4⟩, fun x o hx => ?_, fun x o hx => ?_, fun x hx hn => ?_⟩
    · simp only [Hp.one] at hx; split at hx
      · rename_i e; cases hx; rw [e]; simp [hlt]
      · cases hx
    · right; simp only [Hp.one] at hx ⊢; split at hx
      · rename_i e; simp [e]
      · cases hx
    · have : x ≠ b := by intro e; simp [Hp.one, e] at hn
      exact Array.getElem?_setIfInBounds_ne (Ne.symm this)
  cases hix : (m.map (·.1)).idxOf? kk with
  | some i =>
    obtain ⟨q1, q2, q3, q4⟩ := modify_set (ke := ke) kk v m es.toList i h1 h2 hix
    obtain ⟨ei, hei, hek⟩ := Option.map_eq_some_iff.1 q4
    rw [hix] at hf
    simp only [Option.bind_some, hei, Option.map_some] at hf
    refine ⟨_, ?_, hturn (es.modify i fun e => { e with key := ke kk, val := v }) clock (by rw [Array.toList_modify]; exact q1) (by rw [Array.toList_modify]; exact q2) (fun e he => ?_) (by rw [Array.toList_modify, q3]; exact h5)⟩
    · have hk' : ((es[i]?).map (·.key)).getD (ke kk) = ke kk := by
        rw [← Array.getElem?_toList, hei]; simp [hek]
      simp [Instr.mapUpdate, run_underlying ht, run_getMap hb, kt.chk, hf, hk', keyStays kt, run_setMap _ hb]
    · rw [Array.toList_modify] at he
      have hbm : e.born ∈ (es.toList.modify i fun e => { e with key := ke kk, val := v }).map (·.born) := List.mem_map_of_mem he
      rw [q3] at hbm
      obtain ⟨e', he', hb'⟩ := List.mem_map.1 hbm
      rw [← hb']; exact h4 e' he'
  | none =>
    rw [hix] at hf
    simp only [Option.bind_none] at hf
    have hp := push_set kk v m hix
    refine ⟨_, ?_, hturn (es.push { key := ke kk, val := v, born := clock }) (clock + 1) (by rw [hp]; simp [h1]) (by rw [hp]; simp [h2]) (fun e he => ?_) ?_⟩
    · simp [Instr.mapUpdate, run_underlying ht, run_getMap hb, kt.chk, hf, run_setMap _ hb]
    · simp only [Array.toList_push, List.mem_append, List.mem_singleton] at he
      rcases he with he | rfl
      · exact Nat.lt_succ_of_lt (h4 e he)
      · exact Nat.lt_succ_self _
    · simp only [Array.toList_push, List.map_append, List.map_cons, List.map_nil]
      rw [List.nodup_append]
      refine ⟨h5, by simp, ?_⟩
      rintro x hx y hy rfl
      simp at hy; subst hy
      obtain ⟨e', he', hb'⟩ := List.mem_map.1 hx
      have := h4 e' he'
      omega
theorem s_mapUpdate {κ : Type} [DecidableEq κ] {ke : κ → Value} {T e : TypeId} {t : TypeId} {x y z : Operand} {b : Nat} {kk : κ} {m : List (κ × Value)} {sz ib : Nat} {iv : List Value} {kv v : Value} {rem : List HP} (hx : ρ.ev x = some (.map (some b))) (hy : ρ.ev y = some kv) (hz : ρ.ev z = some v) [hm : UpdM ke b m L rem] (hk : kv = ke kk) (kt : KT P T ke)
    (ht : fr.X.tab[t]? = some (some ⟨.mp T e, sz, ib, iv⟩)) (h : J fr ds ρ (Mp ke b (mset kk v m) :: rem) (.ops all rest :: k)) : J fr ds ρ L (.ops all (⟨none, .mapUpdate t x y z, ty, pos, af, none⟩ :: rest) :: k) :=
  s_eff0 (fun c e => by cases e) fun a w ha hw o ho _ => by
    subst hk
    obtain ⟨d', inf, z', g1, g2, g3, g4, g5, g6, g7⟩ := TI.of_spec (fr.X.ti ht)
    have := Ty.of_mp g4
    subst this
    obtain ⟨w', hr, hs⟩ := run_mapUpdate (P := P) (hw.perm hm.perm) kk v kt g1
    refine ⟨.skip, w', _, ?_, .inl rfl, hs, h⟩
    unfold execOp; rw [ho]
    simp [ha.ev hx, ha.ev hy, ha.ev hz, hr]
end
end Go.E

/- The proof kit 'E', part 8: rows of structs that are only read. -/
namespace Go.E
open Go Go.RowKit
/-- A row of elements of sz cells each, read in a world. -/
def RdE {α : Type} (sz : Nat) (enc : α → List Value) (d : α) (w : World) (A : Option Addr) (xs : List α) : Prop :=
  ∀ i, i < xs.length → ∃ ad, A = some ad ∧ ∀ j u, (enc (xs.getD i d))[j]? = some u → w.cell? (ad.add (i * sz + j)) = some u
def KE {α : Type} (sz : Nat) (enc : α → List Value) (d : α) (base : World) (M : Nat → Prop) (A : Option Addr) (xs : List α) : Prop := ∀ w, Since base M w → RdE sz enc d w A xs
theorem RdE.kept {α : Type} {sz : Nat} {enc : α → List Value} {d : α} {base : World} {M : Nat → Prop} {A : Option Addr} {xs : List α} (h : RdE sz enc d base A xs) (hM : ∀ ad, A = some ad → ¬ M ad.block) : KE sz enc d base M A xs := fun w hw i hi => by
  obtain ⟨ad, hA, hc⟩ := h i hi
  exact ⟨ad, hA, fun j u hj => hw.old (hc j u hj) (by rw [addr_add_block]; exact hM ad hA)⟩
theorem KE.of {α : Type} {sz : Nat} {enc : α → List Value} {d : α} {base w : World} {M N : Nat → Prop} {L : List HP} {A : Option Addr} {xs : List α} (h : KE sz enc d base M A xs) (hl : ∀ w', Since w N w' → Sat base M L w') : KE sz enc d w N A xs := fun w' h' => h w' (hl w' h').since
theorem addr_add_add (a : Addr) (m n : Nat) : (a.add m).add n = a.add (m + n) := by
  unfold Addr.add
  by_cases hm : m = 0
  · subst hm; simp
  · by_cases hn : n = 0
    · subst hn; simp [hm]
    · have : m + n ≠ 0 := by omega
      simp [hm, hn, Nat.add_assoc]
section
variable {P : Program} {fr : Fr P} {ds : List Deferred} {ρ : Env} {L : List HP} {ty : TypeId} {α : Type} {sz : Nat} {enc : α → List Value} {dd : α}
theorem y_ixE {t e : TypeId} {x ix : Operand} {i : TI} {jt : Ty} {jz jb : Nat} {jv : List Value} {A : Option Addr} {n c : Nat} {kd : IntKind} {q : Int} {xs : List α} (hr : KE sz enc dd fr.base fr.M A xs) (hx : ρ.ev x = some (.slice A n c)) (hix : ρ.ev ix = some (.int kd q)) (hs : fr.X.tab[t]? = some (some i))
    (hi : i.ty = .sl e) (hj : fr.X.tab[e]? = some (some ⟨jt, jz, jb, jv⟩)) (hn : n = xs.length) (h0 : 0 ≤ q) (h1 : q < n) : Yd fr ds ρ L (.indexAddr t x ix) ty (.pointer (some ((A.getD default).add (q.toNat * jz)))) := by
  refine exec_v (fun c e => by cases e) fun a w ha hw dst pos af g => ?_
  obtain ⟨ad, rfl, _⟩ := hr w hw.since q.toNat (by omega)
  exact (y_indexAddr (ad := ad) hx hix hs hi hj h0 h1 rfl).2 a w ha hw _ rfl rfl
/-- A whole element. -/
theorem y_ldE {t : TypeId} {x : Operand} {it : Ty} {iz ib : Nat} {iv : List Value} {A : Option Addr} {q : Nat} {xs : List α} (hr : KE sz enc dd fr.base fr.M A xs) (hx : ρ.ev x = some (.pointer (some ((A.getD default).add ((q : Int).toNat * sz))))) (ht : fr.X.tab[t]? = some (some ⟨it, iz, ib, iv⟩)) (hi : it.agg = true)
    (hq : q < xs.length) (hn : (enc (xs.getD q dd)).length = iz) : Yd fr ds ρ L (.load t x) ty (.agg (enc (xs.getD q dd)).toArray) :=
  y_loadN hx ht hi hn fun w hw j v hj => by
    obtain ⟨ad, rfl, hc⟩ := hr w hw.since q hq
    rw [Option.getD_some, addr_add_add]
    exact hc j v hj
/-- One field of an element. -/
theorem y_ldF {t : TypeId} {x : Operand} {i : TI} {A : Option Addr} {q off : Nat} {xs : List α} {v : Value} (hr : KE sz enc dd fr.base fr.M A xs) (hx : ρ.ev x = some (.pointer (some (((A.getD default).add ((q : Int).toNat * sz)).add off)))) (ht : fr.X.tab[t]? = some (some i)) (hi : i.ty.agg = false)
    (hq : q < xs.length) (hv : (enc (xs.getD q dd))[off]? = some v) : Yd fr ds ρ L (.load t x) ty v :=
  y_load1 hx ht hi fun w hw => by
    obtain ⟨ad, rfl, hc⟩ := hr w hw.since q hq
    rw [Option.getD_some, addr_add_add]
    exact hc off v hv
end
end Go.E

/- Kit E, part 9: an effect in a region that draws its order, with a mask of what still waits (the mask is printed by ex.py). -/
set_option linter.unusedVariables false
namespace Go.E
open Go
def sift {α : Type} : List Bool → List α → List α
  | true :: m, p :: l => p :: sift m l
  | false :: m, _ :: l => sift m l
  | _, _ => []
theorem sift_filter {α : Type} {j : α → Nat} {f : Nat → Bool} : ∀ {l : List α} {m : List Bool}, (l.map j).map f = m → l.filter (fun p => f (j p)) = sift m l
  | [], m, h => by cases m <;> first | rfl | cases h
  | p :: l, m, h => by
    cases m with
    | nil => cases h
    | cons b m =>
      simp only [List.map_cons, List.cons.injEq] at h
      have := sift_filter (j := j) (f := f) (l := l) (m := m) h.2
      cases b with
      | true => rw [List.filter_cons_of_pos (by simpa using h.1), this]; rfl
      | false => rw [List.filter_cons_of_neg (by simp [h.1]), this]; rfl
section
variable {P : Program} {fr : Fr P} {ds : List Deferred} {ρ : Env} {L : List HP} {k : List It} {all : Array Oper} {pend : List Pd} {fuel : Nat} {listed : Array Bool}
def ReM (fr : Fr P) (ds : List Deferred) (L : List HP) (all : Array Oper) : List Bool → List Pd → Prop
  | true :: m, p :: l => (∃ o, all[p.j]? = some o ∧ Yd fr ds p.ρ L o.op o.type p.v) ∧ ReM fr ds L all m l
  | false :: m, _ :: l => ReM fr ds L all m l
  | _, _ => True
theorem rm_nil : ReM fr ds L all [] [] := trivial
theorem rm_skip {p : Pd} {m : List Bool} {l : List Pd} (t : ReM fr ds L all m l) : ReM fr ds L all (false :: m) (p :: l) := t
theorem rm_yd {j : Nat} {v : Value} {σ : Env} {m : List Bool} {l : List Pd} {dst : Option Tmp} {op : Op} {ty : TypeId} {pos : String} {af : Array Edge} {g : Option (Nat × Bool)} (ho : all[j]? = some ⟨dst, op, ty, pos, af, g⟩) (hy : Yd fr ds σ L op ty v) (t : ReM fr ds L all m l) :
    ReM fr ds L all (true :: m) (⟨j, v, σ⟩ :: l) := ⟨⟨_, ho, hy⟩, t⟩
theorem ReM.re {i : Nat} : ∀ {pend : List Pd} {m : List Bool}, (pend.map (·.j)).map (fun j => !waits all i j) = m → ReM fr ds L all m pend → Re fr ds L all i pend
  | [], m, _, _ => trivial
  | p :: l, m, h, hr => by
    cases m with
    | nil => cases h
    | cons b m =>
      simp only [List.map_cons, List.cons.injEq] at h
      cases b with
      | true => exact ⟨.inr hr.1, ReM.re h.2 hr.2⟩
      | false => exact ⟨.inl (by simpa using h.1), ReM.re h.2 hr⟩
theorem d_effM (i : Nat) (js : List Nat) (m : List Bool) {o : Oper} (hi : all[i]? = some o) (hok : okOnly all listed i = true) (hjs : pend.map (·.j) = js) (hm : js.map (fun j => !waits all i j) = m)
    (h : ∀ K : Act → World → Prop, (∀ ρ' L', ReM fr ds L' all m pend → JD fr ds ρ' L' all (sift m pend) fuel (listed.setIfInBounds i true) k → J fr.q ds ρ' L' [.then_ K]) →
      J fr.q ds ρ L [.ops all [o], .then_ K]) : JD fr ds ρ L all pend (fuel + 1) listed k := by
  subst hjs
  refine d_eff i hi hok fun K hK => h K fun ρ' L' hre hj => hK ρ' L' (hre.re hm) ?_
  rw [sift_filter hm]
  exact hj
end
end Go.E

/- Kit E, part 10: make of a slice, slices of slices, append of what is only read, Bool comparisons, mul, what is known of a value. -/
set_option linter.unusedVariables false
set_option linter.unusedSimpArgs false
namespace Go.E
open Go
section
variable {P : Program} {fr : Fr P} {ds : List Deferred} {ρ : Env} {L : List HP} {k : List It} {all : Array Oper} {rest : List Oper} {d : Nat} {ty : TypeId} {pos : String} {af : Array Edge}
theorem y_as {op : Op} {v v' : Value} (h : Yd fr ds ρ L op ty v) (e : v = v') : Yd fr ds ρ L op ty v' := e ▸ h
theorem zerosOf_take (z : List Value) (l c : Nat) (h : l ≤ c) : (zerosOf z c).take (l * z.length) = zerosOf z l := by
  induction l generalizing c with
  | zero => simp [zerosOf]
  | succ l ih =>
    cases c with
    | zero => omega
    | succ c =>
      simp only [zerosOf]
      rw [Nat.add_mul, Nat.one_mul, Nat.add_comm (l * z.length), List.take_length_add_append, ih c (by omega)]
theorem run_mkslice {t e : TypeId} {l c sz ib : Nat} {iv : List Value} {z : Value} {w : World} {inf : TypeInfo} (g1 : P.underlying t = some (.slice e)) (hsz : (sizeOf e).run P w = .ok sz w) (hin : (typeInfo e).run P w = .ok inf w) (hib : inf.bytes = ib)
    (hz : (zeroValue e).run P w = .ok z w) (hzc : z.cells = iv.toArray) (hiv : iv.length = sz) (h0 : 1 ≤ sz) (hl : l ≤ c) (hc : c ≤ 1099511627776) (hb : ib ≤ 100) (k1 k2 : IntKind) :
    (Instr.makeSlice t (.int k1 l) (.int k2 c)).run P w = .ok (.slice (some ⟨w.heap.size, 0, none⟩) l c) (w.alloc (.cells (zerosOf iv c).toArray e (0, 0))) := by
  have hbc : ib * c ≤ 100 * 1099511627776 := Nat.mul_le_mul hb hc
  have hwl : IntKind.i64.wrap (l : Int) = l := by rw [IntKind.wrap_i64]; omega
  have hwc : IntKind.i64.wrap (c : Int) = c := by rw [IntKind.wrap_i64]; omega
  have hmz := made_zeros iv c (by omega)
  rw [hiv] at hmz
  have c1 : ¬ ((ib : Int) * (c : Int) > 2 ^ 48) := by
    have : ((ib * c : Nat) : Int) ≤ ((100 * 1099511627776 : Nat) : Int) := Int.ofNat_le.2 hbc
    have e : ((ib * c : Nat) : Int) = (ib : Int) * (c : Int) := by simp
    omega
  have c2 : ¬ (c * ib > roomBytes) := by
    unfold roomBytes
    rw [Nat.mul_comm]; omega
  have a1 : ∀ (k : IntKind) (x : Int), (asInt (.int k x)).run P w = .ok x w := fun k x => rfl
  have a2 : (askRoom (c * ib)).run P w = .ok () w := by unfold askRoom; rw [if_neg c2]; rfl
  have n1 : ¬ ((c : Int) < 0) := by omega
  have n2 : ¬ ((l : Int) < 0) := by omega
  have n3 : ¬ ((l : Int) > c) := by omega
  have hbig : (decide ((c : Int) < 0) || decide ((ib : Int) * (c : Int) > 2 ^ 48)) = false := by simp only [n1, c1, decide_false, Bool.or_self]
  have hif : ¬ (((decide ((c : Int) < 0) || decide ((ib : Int) * (c : Int) > 2 ^ 48)) || decide ((l : Int) < 0) || decide ((l : Int) > c)) = true) := by rw [hbig]; simp only [n2, n3, decide_false, Bool.or_self]; decide
  simp only [Instr.makeSlice, Sem.run_bind, run_underlying g1, Result.andThen_ok, a1, hin, hib, hwl, hwc]
  rw [if_neg (by simpa using hif)]
  simp only [Sem.run_bind, Int.toNat_natCast, a2, Result.andThen_ok, hsz]
  by_cases h : c * sz = 0
  · have hmz0 : Array.map (fun i => (#[] : Array Value)[i % (#[] : Array Value).size]!) (Array.range 0) = (zerosOf iv c).toArray := by rw [← hmz, h]; simp
    rw [if_pos h, h]
    simp only [Sem.run_bind, Sem.run_pure, Result.andThen_ok, newRow, run_newObj, hmz0]
    rfl
  · rw [if_neg h]
    simp only [Sem.run_bind, Sem.run_pure, Result.andThen_ok, newRow, run_newObj, hz, hzc, hmz]
    rfl
/-- make of a slice. -/
theorem s_mkslice {t e : TypeId} {x y : Operand} {l c : Nat} {k1 k2 : IntKind} {q1 q2 : Int} {sz ib ib0 sz0 : Nat} {iv iv0 : List Value} {ity : Ty} (hx : ρ.ev x = some (.int k1 q1)) (hy : ρ.ev y = some (.int k2 q2)) (h1 : q1 = l) (h2 : q2 = c)
    (ht : fr.X.tab[t]? = some (some ⟨.sl e, sz0, ib0, iv0⟩)) (hi : fr.X.tab[e]? = some (some ⟨ity, sz, ib, iv⟩)) (hz : iv.length = sz) (h0 : Nat.ble 1 sz = true) (hb : Nat.ble ib 100 = true) (hs : Nat.ble sz 100 = true) (hd : Nat.ble (d + 1) fr.n = true) (hl : l ≤ c) (hc : c ≤ 1099511627776)
    (h : ∀ b, J fr ds ((d, .slice (some ⟨b, 0, none⟩) l c) :: ρ) (Sl e sz (some ⟨b, 0, none⟩) l c (zerosOf iv l) :: L) (.ops all rest :: k)) :
    J fr ds ρ L (.ops all (⟨some d, .makeSlice t x y, ty, pos, af, none⟩ :: rest) :: k) :=
  s_eff (fun c e => by cases e) hd fun a w haa hw o ho _ => by
    obtain ⟨d', inf, z', g1, g2, g3, g4, g5, g6, g7⟩ := TI.of_spec (fr.X.ti ht)
    have := Ty.of_sl g4
    subst this
    subst h1 h2
    obtain ⟨z, hzr, hzl⟩ := run_zero (w := w) (fr.X.ti hi)
    obtain ⟨inf', hin, _, hby, _⟩ := run_info (w := w) (fr.X.ti hi)
    have hsz := run_sizeOf (w := w) (fr.X.ti hi)
    simp only at hzl hsz hby
    have hr := run_mkslice (P := P) (w := w) g1 hsz hin hby hzr (by rw [← hzl]) hz (Nat.le_of_ble_eq_true h0) hl hc (Nat.le_of_ble_eq_true hb) k1 k2
    refine ⟨_, w.alloc (.cells (zerosOf iv c).toArray e (0, 0)), _, ?_, (hw.alloc _).imp fun hp e1 => ?_, h w.heap.size⟩
    · unfold execOp; rw [ho]
      simp [haa.ev hx, haa.ev hy, hr]
    · have hs' := Nat.le_of_ble_eq_true hs
      refine ⟨by rw [zerosOf_length, hz], hl, by unfold maxLen; omega, .inr ⟨_, _, rfl, e1, by simp [zerosOf_length, hz], ?_⟩⟩
      rw [zerosOf_length]
      exact zerosOf_take iv l c hl
/-- A slice of a slice, from the first on. -/
theorem y_sliceHi {t e : TypeId} {x y : Operand} {A : Option Addr} {n c m : Nat} {kd : IntKind} {q : Int} {sz ib ib0 sz0 : Nat} {iv iv0 : List Value} {ity : Ty} (hx : ρ.ev x = some (.slice A n c)) (hy : ρ.ev y = some (.int kd q)) (hq : q = m) (hm : m ≤ c)
    (ht : fr.X.tab[t]? = some (some ⟨.sl e, sz0, ib0, iv0⟩)) (hi : fr.X.tab[e]? = some (some ⟨ity, sz, ib, iv⟩)) : Yd fr ds ρ L (.slice t x none (some y) none) ty (.slice A m c) :=
  exec_v (fun c e => by cases e) fun a w ha _ _ _ _ _ => by
    obtain ⟨d', inf, z', g1, g2, g3, g4, g5, g6, g7⟩ := TI.of_spec (fr.X.ti ht)
    have := Ty.of_sl g4
    subst this
    subst hq
    have hsz := run_sizeOf (w := w) (fr.X.ti hi)
    simp only at hsz
    have hb : (Instr.sliceBound (.int kd m) c .sliceAcap).run P w = .ok m w := by
      simp [Instr.sliceBound, asIntOf, Sem.run_bind, Sem.run_pure, hm]
    have ha0 : ∀ b : Addr, b.add 0 = b := fun b => by unfold Addr.add; split <;> simp_all
    simp [execOp, ha.ev hx, ha.ev hy, Instr.sliceAt, Instr.slice, Instr.sliceBounds, run_underlying g1, hb, hsz, ha0]
theorem run_append_nil {t e ty' : TypeId} {A : Option Addr} {n c c' sz : Nat} {w : World} (g1 : P.underlying t = some (.slice e)) (hsz : (sizeOf e).run P w = .ok sz w) (hn : n ≤ c) :
    (Builtin.append_ #[t, t] ty' #[.slice A n c, .slice none 0 c']).run P w = .ok (.slice A n c) w := by
  have hst : ∀ b : Addr, (storeCells b []).run P w = .ok () w := fun b => rfl
  cases A with
  | none => simp [Builtin.append_, run_underlying g1, hsz, Builtin.lenOf, Builtin.firstCells, hn]
  | some a => simp [Builtin.append_, run_underlying g1, hsz, Builtin.lenOf, Builtin.firstCells, hn, hst]
/-- append of what is only read; it may be nil. -/
theorem s_appendV {x y : Operand} {t e : TypeId} {A B : Option Addr} {n c m c' sz ib : Nat} {xs news : List Value} {ib0 : Nat} {iv0 : List Value} {ity : Ty} {iv : List Value} {rem : List HP} {sz0 : Nat}
    (hx : ρ.ev x = some (.slice A n c)) (hy : ρ.ev y = some (.slice B m c')) [hm : UpdS A e sz n c xs L rem] (ht : fr.X.tab[t]? = some (some ⟨.sl e, sz0, ib0, iv0⟩)) (hi : fr.X.tab[e]? = some (some ⟨ity, sz, ib, iv⟩))
    (hz : iv.length = sz) (h0 : Nat.ble 1 sz = true) (hd : Nat.ble (d + 1) fr.n = true)
    (hnews : ∀ w, Sat fr.base fr.M L w → m = 0 ∨ ∃ ad, B = some ad ∧ ∀ j u, news[j]? = some u → w.cell? (ad.add j) = some u) (hl : news.length = m * sz) (h1 : ∀ u ∈ news, Value.one u = true) (h63 : n + m ≤ 1099511627776) (hbytes : Nat.ble ib 100 = true)
    (h : ∀ A' c'', J fr ds ((d, .slice A' (n + m) c'') :: ρ) (Sl e sz A' (n + m) c'' (xs ++ news) :: rem) (.ops all rest :: k)) :
    J fr ds ρ L (.ops all (⟨some d, .call ⟨.builtin .append, #[x, y], #[t, t]⟩, ty, pos, af, none⟩ :: rest) :: k) :=
  s_eff (fun c e => by cases e) hd fun a w ha hw o ho _ => by
    have hw' := hw.perm hm.perm
    have key : m = 0 ∧ B = none ∨ ∃ ad, B = some ad ∧ ∀ j u, news[j]? = some u → w.cell? (ad.add j) = some u := by
      rcases hnews w hw with h0 | h0
      · cases B with
        | none => exact .inl ⟨h0, rfl⟩
        | some ad =>
          refine .inr ⟨ad, rfl, fun j u hj => ?_⟩
          have : news = [] := List.length_eq_zero_iff.1 (by rw [hl, h0, Nat.zero_mul])
          rw [this] at hj; simp at hj
      · exact .inr h0
    rcases key with ⟨rfl, rfl⟩ | ⟨ad, rfl, hc⟩
    · obtain ⟨d', inf, z', g1, g2, g3, g4, g5, g6, g7⟩ := TI.of_spec (fr.X.ti ht)
      have := Ty.of_sl g4
      subst this
      have hsz := run_sizeOf (w := w) (fr.X.ti hi)
      simp only at hsz
      obtain ⟨kk, hk, hik⟩ := hw'.has List.mem_cons_self
      have hf := Sl.facts _ hk
      have hr := run_append_nil (P := P) (A := A) (c' := c') (ty' := o.type) g1 hsz hf.2
      have hnil : news = [] := List.length_eq_zero_iff.1 (by rw [hl, Nat.zero_mul])
      refine ⟨.slice A (n + 0) c, w, _, ?_, ?_, h A c⟩
      · unfold execOp; rw [ho]
        simp [resolve, invoke, builtin, ha.ev hx, ha.ev hy, hr]
      · rw [hnil, List.append_nil]; exact hw'
    · obtain ⟨A', c'', w', hr, hs⟩ := hw'.append (ty := o.type) (fr.X.ti ht) rfl (fr.X.ti hi) rfl rfl hz (Nat.le_of_ble_eq_true h0) hl (c' := c') hc h1 (by omega)
        (Nat.le_trans (Nat.mul_le_mul_left _ (Nat.le_of_ble_eq_true hbytes)) (by omega))
      refine ⟨.slice A' (n + m) c'', w', _, ?_, hs, h A' c''⟩
      unfold execOp; rw [ho]
      simp [resolve, invoke, builtin, ha.ev hx, ha.ev hy, hr]
theorem RdI.news {w : World} {A : Option Addr} {xs : List Int} (h : RdI w A xs) : xs.length = 0 ∨ ∃ ad, A = some ad ∧ ∀ j u, (ints xs)[j]? = some u → w.cell? (ad.add j) = some u := by
  cases hx : xs with
  | nil => exact .inl rfl
  | cons x t =>
    right
    rw [← hx]
    obtain ⟨ad, rfl, _⟩ := h 0 (by rw [hx]; simp)
    refine ⟨ad, rfl, fun j u hj => ?_⟩
    have hlt : j < xs.length := by
      have := (List.getElem?_eq_some_iff.1 hj).1
      rwa [ints_length] at this
    rw [ints_get hlt] at hj
    cases hj
    obtain ⟨ad', e, hc⟩ := h j hlt
    cases e
    exact hc
theorem ints_one (xs : List Int) : ∀ u ∈ ints xs, Value.one u = true := fun u hu => by
  obtain ⟨x, _, rfl⟩ := List.mem_map.1 hu; rfl
theorem flat_get {α : Type} {sz : Nat} {enc : α → List Value} (he : ∀ x, (enc x).length = sz) (h0 : 0 < sz) (dd : α) : ∀ (xs : List α) (j : Nat) (u : Value), (xs.flatMap enc)[j]? = some u → j / sz < xs.length ∧ (enc (xs.getD (j / sz) dd))[j % sz]? = some u
  | [], j, u, h => by simp at h
  | x :: xs, j, u, h => by
    rw [List.flatMap_cons] at h
    by_cases hj : j < sz
    · rw [List.getElem?_append_left (by rw [he]; exact hj)] at h
      rw [Nat.div_eq_of_lt hj, Nat.mod_eq_of_lt hj]
      exact ⟨by simp, h⟩
    · rw [List.getElem?_append_right (by rw [he]; omega), he] at h
      obtain ⟨h1, h2⟩ := flat_get he h0 dd xs (j - sz) u h
      have e1 : j / sz = (j - sz) / sz + 1 := Nat.div_eq_sub_div h0 (by omega)
      have e2 : j % sz = (j - sz) % sz := Nat.mod_eq_sub_mod (by omega)
      rw [e1, e2]
      exact ⟨by simp; omega, by simpa using h2⟩
theorem flat_length {α : Type} {sz : Nat} {enc : α → List Value} (he : ∀ x, (enc x).length = sz) : ∀ xs : List α, (xs.flatMap enc).length = xs.length * sz
  | [] => by simp
  | x :: xs => by rw [List.flatMap_cons, List.length_append, he, flat_length he xs, List.length_cons, Nat.add_mul]; omega
theorem RdE.news {α : Type} {sz : Nat} {enc : α → List Value} {dd : α} {w : World} {A : Option Addr} {xs : List α} (he : ∀ x, (enc x).length = sz) (h0 : 0 < sz) (h : RdE sz enc dd w A xs) :
    xs.length = 0 ∨ ∃ ad, A = some ad ∧ ∀ j u, (xs.flatMap enc)[j]? = some u → w.cell? (ad.add j) = some u := by
  cases hx : xs with
  | nil => exact .inl rfl
  | cons x t =>
    right
    rw [← hx]
    obtain ⟨ad, rfl, _⟩ := h 0 (by rw [hx]; simp)
    refine ⟨ad, rfl, fun j u hj => ?_⟩
    obtain ⟨h1, h2⟩ := flat_get he h0 dd xs j u hj
    obtain ⟨ad', e, hc⟩ := h (j / sz) h1
    cases e
    have := hc (j % sz) u h2
    rwa [Nat.mul_comm, Nat.div_add_mod] at this
/-- append of numbers that are only read. -/
theorem s_appendI {x y : Operand} {t e : TypeId} {A B : Option Addr} {n c m c' ib : Nat} {xs : List Value} {ys : List Int} {ib0 : Nat} {iv0 : List Value} {ity : Ty} {iv : List Value} {rem : List HP} {sz0 : Nat}
    (hx : ρ.ev x = some (.slice A n c)) (hy : ρ.ev y = some (.slice B m c')) [hm : UpdS A e 1 n c xs L rem] (hk : KI fr.base fr.M B ys) (hl : m = ys.length) (ht : fr.X.tab[t]? = some (some ⟨.sl e, sz0, ib0, iv0⟩)) (hi : fr.X.tab[e]? = some (some ⟨ity, 1, ib, iv⟩))
    (hz : iv.length = 1) (hd : Nat.ble (d + 1) fr.n = true) (h63 : n + m ≤ 1099511627776) (hbytes : Nat.ble ib 100 = true)
    (h : ∀ A' c'', J fr ds ((d, .slice A' (n + m) c'') :: ρ) (Sl e 1 A' (n + m) c'' (xs ++ ints ys) :: rem) (.ops all rest :: k)) :
    J fr ds ρ L (.ops all (⟨some d, .call ⟨.builtin .append, #[x, y], #[t, t]⟩, ty, pos, af, none⟩ :: rest) :: k) :=
  s_appendV hx hy ht hi hz rfl hd (fun w hw => by rw [hl]; exact (hk w hw.since).news) (by rw [ints_length, Nat.mul_one, hl]) (ints_one ys) h63 hbytes h
theorem s_appendE {α : Type} {enc : α → List Value} {dd : α} {x y : Operand} {t e : TypeId} {A B : Option Addr} {n c m c' sz ib : Nat} {xs : List Value} {ys : List α} {ib0 : Nat} {iv0 : List Value} {ity : Ty} {iv : List Value} {rem : List HP} {sz0 : Nat}
    (hx : ρ.ev x = some (.slice A n c)) (hy : ρ.ev y = some (.slice B m c')) [hm : UpdS A e sz n c xs L rem] (hk : KE sz enc dd fr.base fr.M B ys) (hl : m = ys.length) (he : ∀ x, (enc x).length = sz) (h1 : ∀ x, ∀ u ∈ enc x, Value.one u = true)
    (ht : fr.X.tab[t]? = some (some ⟨.sl e, sz0, ib0, iv0⟩)) (hi : fr.X.tab[e]? = some (some ⟨ity, sz, ib, iv⟩))
    (hz : iv.length = sz) (h0 : Nat.ble 1 sz = true) (hd : Nat.ble (d + 1) fr.n = true) (h63 : n + m ≤ 1099511627776) (hbytes : Nat.ble ib 100 = true)
    (h : ∀ A' c'', J fr ds ((d, .slice A' (n + m) c'') :: ρ) (Sl e sz A' (n + m) c'' (xs ++ ys.flatMap enc) :: rem) (.ops all rest :: k)) :
    J fr ds ρ L (.ops all (⟨some d, .call ⟨.builtin .append, #[x, y], #[t, t]⟩, ty, pos, af, none⟩ :: rest) :: k) :=
  s_appendV hx hy ht hi hz h0 hd (fun w hw => by rw [hl]; exact (hk w hw.since).news he (Nat.le_of_ble_eq_true h0)) (by rw [flat_length he, hl]) (fun u hu => by
    obtain ⟨x, _, hx⟩ := List.mem_flatMap.1 hu; exact h1 x u hx) h63 hbytes h
theorem RdI.pre {w : World} {A : Option Addr} {xs ys : List Int} (h : RdI w A (xs ++ ys)) : RdI w A xs := fun i hi => by
  obtain ⟨ad, e, hc⟩ := h i (by rw [List.length_append]; omega)
  refine ⟨ad, e, ?_⟩
  rwa [List.getD_eq_getElem?_getD, List.getElem?_append_left hi, ← List.getD_eq_getElem?_getD] at hc
theorem KI.pre {base : World} {M : Nat → Prop} {A : Option Addr} {xs ys : List Int} (h : KI base M A (xs ++ ys)) : KI base M A xs := fun w hw => (h w hw).pre
end
end Go.E

/- Kit E, part 11: Bools compared. -/
set_option linter.unusedVariables false
namespace Go.E
open Go
section
variable {P : Program} {fr : Fr P} {ds : List Deferred} {ρ : Env} {L : List HP} {t t' : TypeId} {ty : TypeId} {x y : Operand} {b c : Bool}
theorem run_eqB {w : World} (hu : P.underlying t = some .bool) : (Op.equal t (.bool b) (.bool c)).run P w = .ok (b == c) w := by
  unfold Op.equal Op.maxDepth
  rw [show (10000 : Nat) = 9999 + 1 from rfl]
  unfold Op.equalIn
  simp only [Sem.run_bind, run_underlying hu, Result.andThen_ok]
  rfl
theorem y_eqlB {sz ib : Nat} {iv : List Value} (hx : ρ.ev x = some (.bool b)) (hy : ρ.ev y = some (.bool c)) (ht : fr.X.tab[t]? = some (some ⟨.bool, sz, ib, iv⟩)) : Yd fr ds ρ L (.binOp .eql t x y t') ty (.bool (b == c)) :=
  binOp_run hx hy fun w => by
    obtain ⟨d', inf, z', g1, g2, g3, g4, g5, g6, g7⟩ := TI.of_spec (fr.X.ti ht)
    have hu : P.underlying t = some .bool := by rw [g1]; cases d' <;> first | rfl | cases g4
    simp [eqGuard, Go.binOp, run_eqB hu]
theorem y_neqB {sz ib : Nat} {iv : List Value} (hx : ρ.ev x = some (.bool b)) (hy : ρ.ev y = some (.bool c)) (ht : fr.X.tab[t]? = some (some ⟨.bool, sz, ib, iv⟩)) : Yd fr ds ρ L (.binOp .neq t x y t') ty (.bool (b != c)) :=
  binOp_run hx hy fun w => by
    obtain ⟨d', inf, z', g1, g2, g3, g4, g5, g6, g7⟩ := TI.of_spec (fr.X.ti ht)
    have hu : P.underlying t = some .bool := by rw [g1]; cases d' <;> first | rfl | cases g4
    simp [eqGuard, Go.binOp, run_eqB hu, bne]
end
/-! ### More than one effect may come up -/
section
variable {P : Program} {fr : Fr P} {ds : List Deferred} {ρ : Env} {L : List HP} {k : List It} {all : Array Oper} {pend : List Pd} {fuel : Nat} {listed : Array Bool}
def EffOK (fr : Fr P) (ds : List Deferred) (ρ : Env) (L : List HP) (all : Array Oper) (pend : List Pd) (fuel : Nat) (listed : Array Bool) (k : List It) (i : Nat) : Prop :=
  ∃ o, all[i]? = some o ∧ ∃ (js : List Nat) (m : List Bool), pend.map (·.j) = js ∧ js.map (fun j => !waits all i j) = m ∧
    ∀ K : Act → World → Prop, (∀ ρ' L', ReM fr ds L' all m pend → JD fr ds ρ' L' all (sift m pend) fuel (listed.setIfInBounds i true) k → J fr.q ds ρ' L' [.then_ K]) →
      J fr.q ds ρ L [.ops all [o], .then_ K]
theorem all2 {p : Nat → Prop} {a b : Nat} (ha : p a) (hb : p b) : ∀ i ∈ [a, b], p i := fun i hi => by
  rcases List.mem_cons.1 hi with rfl | hi
  · exact ha
  · rcases List.mem_cons.1 hi with rfl | hi
    · exact hb
    · cases hi
theorem all3 {p : Nat → Prop} {a b c : Nat} (ha : p a) (hb : p b) (hc : p c) : ∀ i ∈ [a, b, c], p i := fun i hi => by
  rcases List.mem_cons.1 hi with rfl | hi
  · exact ha
  · exact all2 hb hc i hi
theorem d_effs (is : List Nat) (hr : Region.ready .any all listed = is) (hne : is.isEmpty = false) (h : ∀ i ∈ is, EffOK fr ds ρ L all pend fuel listed k i) : JD fr ds ρ L all pend (fuel + 1) listed k := by
  intro pa hpa a w ha hw hre
  refine ⟨fun e => (by rw [hr] at e; rw [e] at hne; cases hne), fun j hj => ?_⟩
  rw [hr] at hj
  obtain ⟨o, hi, js, m, hjs, hm, hE⟩ := h j hj
  subst hjs
  have hJ := hE (fun a1 w1 => ReS P all (pa.filter fun p => !waits all j p.1) w1 ∧ wpAnyP P fr.r all (onlyN (post fr k .normal)) fuel (pa.filter fun p => !waits all j p.1) (listed.setIfInBounds j true) a1 w1) (fun ρ' L' hRe hJD a1 w1 ha1 hw1 => by
    have hS := Re.spec hpa (hRe.re hm) hre hw1
    rw [← sift_filter hm] at hJD
    exact ⟨hS, hJD _ (hpa.filter fun x => !waits all j x) a1 w1 ha1 hw1 hS⟩) a w ha hw
  change wpListIn (FW fr.r) 0 P all (post fr.q [.then_ _]) [o] a w at hJ
  unfold wpOpIn
  simp only [hi]
  simp only [wpListIn] at hJ
  split
  · rename_i hwn
    rw [if_pos hwn] at hJ
    refine ⟨fun _ _ => trivial, uponIn_mono2 (fun a w h => h) (fun e a w hne h => ?_) hJ.2⟩
    cases e with
    | normal => exact absurd rfl hne
    | _ => exact h
  · rename_i hwn
    rw [if_neg hwn] at hJ
    exact ⟨fun _ _ => trivial, hJ.2⟩
end
end Go.E

/- Kit E, part 12: a cut behind a piece of code. -/
set_option linter.unusedVariables false
namespace Go.E
open Go
section
variable {P : Program} {fr : Fr P} {ds : List Deferred} {ρ : Env} {L : List HP} {k : List It}
theorem J.to {ρ' : Env} {L' junk : List HP} (h : J fr ds ρ' L' k) (hρ : Env.sub ρ' ρ) (hL : L.Perm (L' ++ junk)) : J fr ds ρ L k := J.perm hL (J.drop (J.env hρ h))
/-- A cut: whatever way a piece of code goes, it comes out at one state. -/
theorem s_join {σ : Type} {c : Code} (ρI : σ → Env) (LI : σ → List HP) (φ : σ → Prop) (h1 : ∀ k', (∀ x, φ x → J fr ds (ρI x) (LI x) k') → J fr ds ρ L (.code c :: k')) (h2 : ∀ x, φ x → J fr ds (ρI x) (LI x) k) : J fr ds ρ L (.code c :: k) := h1 k h2
end
end Go.E

/- Kit E, part 13: what a law is handed, opened. -/
set_option linter.unusedVariables false
namespace Go.E
open Go Go.ChangeShapes Go.WideShapes
def okW {H : Type} (P : Program) (t : TypeId) (d : DataW H) : Prop := ∀ n ∈ d.weights P t, n ≤ reachBytes
section
variable {H : Type} {enc : TypeId × Value → H} {P : Program} {w : World} {base : Nat} {spare : Nat → Bool} {held : Bool} {fuel : Nat} {t e : TypeId} {cs : List Value} {x : DataW H × List MemPlace}
theorem okW_each {ts : List TypeId} {ds : List (DataW H)} (h : ∀ n ∈ DataW.weightsEach P ts ds, n ≤ reachBytes) {j : Nat} {d : DataW H} (ht : ts[j]? = some t) (hd : ds[j]? = some d) : okW P t d := fun n hn => h n (DataW.weights_mem_each ht hd n hn)
theorem okW_all {ts : List TypeId} {ds : List (DataW H)} (h : (DataW.weightsEach P ts ds).all (· ≤ reachBytes) = true) : ∀ n ∈ DataW.weightsEach P ts ds, n ≤ reachBytes := fun n hn => by
  have := List.all_eq_true.1 h n hn; simpa using this
/-- A slice of numbers. -/
theorem opened_ints {B : Nat} (ht : P.underlying t = some (.slice e)) (he : P.underlying e = some (.int .i64)) (hc : P.cellsOf e = 1) (hB : P.bytesOf e = B) (h : DataW.trod enc P w base spare held fuel t cs = some x) (hw : okW P t x.1) :
    ∃ (A : Option Addr) (c : Nat) (xs : List Int), cs = [.slice A xs.length c] ∧ RdI w A xs ∧ xs.length * B ≤ 140737488351232 := by
  rcases open_ints ht he hc h with ⟨rfl, rfl⟩ | ⟨a, len, cap, zs, rfl, hb, hl, hm, hz, rfl, hcell, hwf⟩
  · exact ⟨none, 0, [], rfl, fun i hi => absurd hi (Nat.not_lt_zero i), by simp⟩
  · have hle : len ≤ zs.length := by rw [hz]; split <;> omega
    have hlen : (zs.take len).length = len := by rw [List.length_take]; omega
    refine ⟨some a, cap, zs.take len, by rw [hlen], fun i hi => ⟨a, rfl, ?_⟩, ?_⟩
    · rw [hlen] at hi
      have := hcell i (by omega)
      rw [this, List.getD_eq_getElem?_getD, List.getD_eq_getElem?_getD, List.getElem?_take_of_lt hi]
    · rw [hlen]
      have hmem : (zs.length) * B ≤ reachBytes := by
        refine hw _ ?_
        simp only [DataW.weights, ht, hB]
        refine List.mem_cons.2 (.inl ?_)
        congr 1
        simp [lits]; omega
      exact Nat.le_trans (Nat.mul_le_mul_right _ hle) hmem
theorem opened_int {k : IntKind} (ht : P.underlying t = some (.int k)) (h : DataW.trod enc P w base spare held fuel t cs = some x) : ∃ n : Int, cs = [.int k n] ∧ (Lit.int k n).wf = true := by
  obtain ⟨n, h1, _, h2⟩ := DataW.trod_int ht h
  exact ⟨n, h1, h2⟩
/-- The parts of a struct. -/
theorem opened_struct {fs : Array Field} (ht : P.underlying t = some (.struct fs)) (h : DataW.trod enc P w base spare held fuel t cs = some x) (hw : okW P t x.1) :
    cs.length = P.cellsOf t ∧ ∀ (i : Nat) (f : Field), fs[i]? = some f → ∃ y fuel', DataW.trod enc P w base spare held fuel' f.type ((cs.drop f.offset).take (P.cellsOf f.type)) = some y ∧ okW P f.type y.1 := by
  obtain ⟨xs, n, rfl, rfl, hl, hlen, hx⟩ := DataW.trod_struct ht h
  refine ⟨hl, fun i f hf => ?_⟩
  have hi : i < xs.length := by rw [hlen]; exact (Array.getElem?_eq_some_iff.1 hf).1
  refine ⟨xs[i], n, by rw [hx i f hf, List.getElem?_eq_getElem hi], fun m hm => hw m ?_⟩
  simp only [DataW.weights, ht]
  exact DataW.weights_mem_each (j := i) (by simp [hf]) (by simp [hi]) m hm
/-- A slice of elements of one form. -/
theorem opened_row {α : Type} {en : α → List Value} (dd : α) {sz B : Nat} (ht : P.underlying t = some (.slice e)) (hc : P.cellsOf e = sz) (hB : P.bytesOf e = B) (hlen : ∀ a, (en a).length = sz)
    (hel : ∀ fuel cs y, DataW.trod enc P w base spare held fuel e cs = some y → okW P e y.1 → ∃ a, cs = en a) (h : DataW.trod enc P w base spare held fuel t cs = some x) (hw : okW P t x.1) :
    ∃ (A : Option Addr) (c : Nat) (xs : List α), cs = [.slice A xs.length c] ∧ RdE sz en dd w A xs ∧ xs.length * B ≤ 140737488351232 := by
  rcases DataW.trod_slice ht h with ⟨rfl, rfl⟩ | ⟨a, len, cap, elems, rest, n, rfl, rfl, rfl, hb, hl, hm, hlen', hel', hsp, hns⟩
  · exact ⟨none, 0, [], rfl, fun i hi => absurd hi (Nat.not_lt_zero i), by simp⟩
  · have key : ∀ i, i < len → ∃ v : α, ∀ j u, (en v)[j]? = some u → w.cell? (a.add (i * sz + j)) = some u := fun i hi => by
      have h1 := hel' i hi
      have hei : i < elems.length := by omega
      rw [List.getElem?_eq_getElem hei, hc, Option.bind_eq_some_iff] at h1
      obtain ⟨cs', hcs, hy⟩ := h1
      obtain ⟨v, rfl⟩ := hel n cs' _ hy (fun m hm => hw m (by
        simp only [DataW.weights, ht]
        refine List.mem_cons_of_mem _ (List.mem_append_left _ ?_)
        have : ∀ (l : List (DataW H × List MemPlace)) (i : Nat) (hi : i < l.length), m ∈ (l[i].1).weights P e → m ∈ DataW.weightsAll P e (l.map (·.1)) := by
          intro l
          induction l with
          | nil => intro i hi; simp at hi
          | cons y l ih =>
            intro i hi hm
            simp only [List.map_cons, DataW.weightsAll, List.mem_append]
            cases i with
            | zero => exact .inl hm
            | succ i => exact .inr (ih i (by simpa using hi) hm)
        exact this elems i hei hm))
      obtain ⟨_, hl1, hcell⟩ := World.cells?_some hcs
      refine ⟨v, fun j u hj => ?_⟩
      have hjlt : j < sz := by rw [← hl1]; exact (List.getElem?_eq_some_iff.1 hj).1
      have := hcell j hjlt
      rw [addr_add_add] at this
      rw [this, hj]
    have hch : ∃ f : Nat → α, ∀ i, i < len → ∀ j u, (en (f i))[j]? = some u → w.cell? (a.add (i * sz + j)) = some u :=
      ⟨fun i => if hi : i < len then Classical.choose (key i hi) else dd, fun i hi => by dsimp only; rw [dif_pos hi]; exact Classical.choose_spec (key i hi)⟩
    obtain ⟨f, hf⟩ := hch
    refine ⟨some a, cap, (List.range len).map f, by simp, fun i hi => ⟨a, rfl, fun j u hj => ?_⟩, ?_⟩
    · have hi' : i < len := by simpa using hi
      have e1 : ((List.range len).map f).getD i dd = f i := by simp [List.getD_eq_getElem?_getD, hi']
      rw [e1] at hj
      exact hf i hi' j u hj
    · have hmem : (elems.length + rest.length) * B ≤ reachBytes := by
        refine hw _ ?_
        simp only [DataW.weights, ht, hB, List.length_map]
        exact List.mem_cons_self
      have : ((List.range len).map f).length * B ≤ (elems.length + rest.length) * B := Nat.mul_le_mul_right _ (by simp; omega)
      exact Nat.le_trans this hmem
theorem RdI.ki {A : Option Addr} {xs : List Int} (h : RdI w A xs) : KI w noM A xs := fun w' hw' i hi => by
  obtain ⟨ad, hA, hc⟩ := h i hi
  exact ⟨ad, hA, hw'.old hc (fun x => x.elim)⟩
end
end Go.E

/- Kit E, part 14: rows of numbers that are written in place. -/
set_option linter.unusedVariables false
namespace Go.E
open Go
section
variable {P : Program} {fr : Fr P} {ds : List Deferred} {ρ : Env} {L : List HP} {k : List It} {all : Array Oper} {rest : List Oper} {d : Nat} {ty : TypeId} {pos : String} {af : Array Edge}
theorem zerosOf_ints (n : Nat) : zerosOf [Value.int .i64 0] n = ints (List.replicate n 0) := by
  induction n with
  | zero => rfl
  | succ n ih => rw [zerosOf, ih]; simp [ints, List.replicate_succ]
theorem Sl.toCb {e b n : Nat} {l : List Value} {h : Hp} (s : Sl e 1 (some ⟨b, 0, none⟩) n n l h) : cb b e l h := by
  obtain ⟨h1, _, _, h4⟩ := s
  rcases h4 with ⟨h, _, _⟩ | ⟨g, cur, hA, hh, hs, ht⟩
  · cases h
  · cases hA
    rw [hh]
    have : cur.toList = l := by rw [← ht, List.take_of_length_le (by rw [h1, Array.length_toList, hs]; exact Nat.le_refl _)]
    unfold cb pt
    rw [← this]
theorem Sat.cbRdI {base : World} {M : Nat → Prop} {L : List HP} {T b : Nat} {xs : List Int} {w : World} (h : Sat base M L w) (hm : cb b T (ints xs) ∈ L) : RdI w (some ⟨b, 0, none⟩) xs := fun i hi => by
  refine ⟨_, rfl, ?_⟩
  have := h.cbcell hm (o := i) (ints_get hi)
  rw [addr_add, Nat.zero_add]; exact this
theorem ints_set (xs : List Int) (j : Nat) (v : Int) : (ints xs).set j (.int .i64 v) = ints (xs.set j v) := by simp [ints, List.map_set]
/-- One number is written into a row of the call's own. -/
theorem s_storeI {t : TypeId} {x y : Operand} {it : Ty} {ib : Nat} {iv : List Value} {b o : Nat} {T : TypeId} {xs : List Int} {rem : List HP} {v : Int} (j : Nat) (hx : ρ.ev x = some (.pointer (some ⟨b, o, none⟩))) (ho : o = j) (hy : ρ.ev y = some (.int .i64 v)) [hm : UpdB b T (ints xs) L rem]
    (ht : fr.X.tab[t]? = some (some ⟨it, 1, ib, iv⟩)) (hj : j < xs.length)
    (h : J fr ds ρ (cb b T (ints (xs.set j v)) :: rem) (.ops all rest :: k)) : J fr ds ρ L (.ops all (⟨none, .store t x y, ty, pos, af, none⟩ :: rest) :: k) := by
  subst ho
  refine s_store hx hy ht rfl (by rw [Nat.ble_eq, ints_length]; omega) ?_
  rw [ints_set]; exact h
theorem getD_set (xs : List Int) (i j : Nat) (v : Int) (hi : i < xs.length) : (xs.set j v).getD i 0 = if j = i then v else xs.getD i 0 := by
  rw [List.getD_eq_getElem?_getD, List.getD_eq_getElem?_getD, List.getElem?_set]
  by_cases e : j = i
  · subst e; simp [hi]
  · simp [e]
theorem y_ldSq {t : TypeId} {x : Operand} {i : TI} {A : Option Addr} {sz : Nat} {q : Int} {xs : List Int} (hx : ρ.ev x = some (.pointer (some ((A.getD default).add (q.toNat * sz))))) (ht : fr.X.tab[t]? = some (some i)) (hi : i.ty.agg = false)
    (h1 : Nat.beq sz 1 = true) (hr : ∀ w, Sat fr.base fr.M L w → RdI w A xs) (h0 : 0 ≤ q) (hq : q < xs.length) : Yd fr ds ρ L (.load t x) ty (.int .i64 (xs.getD q.toNat 0)) :=
  y_load1 hx ht hi fun w hw => by
    have e : sz = 1 := Nat.eq_of_beq_eq_true h1
    subst e
    obtain ⟨ad, rfl, hc⟩ := hr w hw q.toNat (by omega)
    simpa using hc
/-- append of numbers of the call's own. -/
theorem s_appendS {x y : Operand} {t e : TypeId} {A B : Option Addr} {n c m c' ib : Nat} {xs : List Value} {ys : List Int} {ib0 : Nat} {iv0 : List Value} {ity : Ty} {iv : List Value} {rem : List HP} {sz0 : Nat}
    (hx : ρ.ev x = some (.slice A n c)) (hy : ρ.ev y = some (.slice B m c')) [hm : UpdS A e 1 n c xs L rem] (hk : ∀ w, Sat fr.base fr.M L w → RdI w B ys) (hl : m = ys.length) (ht : fr.X.tab[t]? = some (some ⟨.sl e, sz0, ib0, iv0⟩)) (hi : fr.X.tab[e]? = some (some ⟨ity, 1, ib, iv⟩))
    (hz : iv.length = 1) (hd : Nat.ble (d + 1) fr.n = true) (h63 : n + m ≤ 1099511627776) (hbytes : Nat.ble ib 100 = true)
    (h : ∀ A' c'', J fr ds ((d, .slice A' (n + m) c'') :: ρ) (Sl e 1 A' (n + m) c'' (xs ++ ints ys) :: rem) (.ops all rest :: k)) :
    J fr ds ρ L (.ops all (⟨some d, .call ⟨.builtin .append, #[x, y], #[t, t]⟩, ty, pos, af, none⟩ :: rest) :: k) :=
  s_appendV hx hy ht hi hz rfl hd (fun w hw => by rw [hl]; exact (hk w hw).news) (by rw [ints_length, Nat.mul_one, hl]) (ints_one ys) h63 hbytes h
end
end Go.E

/- Kit E, part 15: a part of a function's body, by its way, so that a part can have a theorem of its own. -/
namespace Go.E
open Go
/-- Down into a body: 0 and 1: the first, the second of two; 2: into a block, a loop, a scope; 3, 4: the branches; 5: the body of a range over a function. -/
def sub : List Nat → Code → Code
  | [], c => c
  | 0 :: p, .seq a _ => sub p a
  | 1 :: p, .seq _ b => sub p b
  | 2 :: p, .block _ b => sub p b
  | 2 :: p, .loop b => sub p b
  | 2 :: p, .scope b => sub p b
  | 3 :: p, .cond _ a _ => sub p a
  | 4 :: p, .cond _ _ b => sub p b
  | 5 :: p, .rangeFunc _ _ _ b => sub p b
  | _, _ => .skip
def bodyOf (f : Func) : Code := f.body.getD .skip
/-- The frame of a part: what the whole call owes. -/
abbrev frOf {P : Program} (X : Cx P) (f : Func) (w : World) (M : Nat → Prop) (R : Value → List HP → Prop) : Fr P := ⟨X, none, w, M, f.ntmps, bodyPostM (FW none) 0 P f fun e w' => ∃ v L', e = .returned v ∧ R v L' ∧ Sat w M L' w'⟩
end Go.E

/- Kit E, part 16: loops told by what they turn alone; the rest of the slots that are looked at later, and of what is owned, is carried along. -/
set_option linter.unusedVariables false
namespace Go.E
open Go Go.RowKit
theorem Env.sub_app {σ τ ρ : Env} (h : Env.sub σ ρ) (h' : Env.sub τ ρ) : Env.sub (σ ++ τ) ρ := by
  induction σ with
  | nil => exact h'
  | cons p σ ih => exact ⟨h.1, ih h.2⟩
section
variable {P : Program} {fr : Fr P} {ds : List Deferred} {ρ : Env} {L : List HP} {k : List It}
/-- A loop: V, K: the slots, and what is owned, that it turns; 'ρk': the other slots that are looked at later. -/
theorem s_loopV {σ : Type} {c : Code} (V : σ → Env) (K : σ → List HP) (φ : σ → Prop) (μ : σ → Nat) (s0 : σ) (ρk : Env) {rem : List HP} (hk : Env.sub ρk ρ) (hv : Env.sub (V s0) ρ) (hL : L.Perm (K s0 ++ rem)) (h0 : φ s0)
    (round : ∀ s, φ s → J fr ds (V s ++ ρk) (K s ++ rem) (.code c :: .inv (Head fr ds (fun s => V s ++ ρk) (fun s => K s ++ rem) φ μ (μ s)) :: k)) : J fr ds ρ L (.code (.loop c) :: k) :=
  s_loop (fun s => V s ++ ρk) (fun s => K s ++ rem) φ μ s0 (junk := []) (Env.sub_app hv hk) (by rw [List.append_nil]; exact hL) h0 round
/-- A cut behind a piece of code, told likewise. -/
theorem s_joinV {σ : Type} {c : Code} (V : σ → Env) (K0 : List HP) (K : σ → List HP) (φ : σ → Prop) (ρk : Env) {rem : List HP} (hk : Env.sub ρk ρ) (hL : L.Perm (K0 ++ rem))
    (h1 : ∀ k', (∀ x, φ x → J fr ds (V x ++ ρk) (K x ++ rem) k') → J fr ds ρ L (.code c :: k')) (h2 : ∀ x, φ x → J fr ds (V x ++ ρk) (K x ++ rem) k) : J fr ds ρ L (.code c :: k) := h1 k h2
/-- The slots that are looked at later alone. -/
theorem J.keep (ρk : Env) (hk : Env.sub ρk ρ) (h : J fr ds ρk L k) : J fr ds ρ L k := J.env hk h
/-- An element of one cell is written into a row that is owned, whole. -/
theorem s_storeSl {all : Array Oper} {rest : List Oper} {ty : TypeId} {pos : String} {af : Array Edge} {t : TypeId} {x y : Operand} {it : Ty} {ib : Nat} {iv : List Value} {A : Option Addr} {e n c : Nat} {xs : List Value} {rem : List HP} {v : Value} {q : Int}
    (hx : ρ.ev x = some (.pointer (some ((A.getD default).add (q.toNat * 1))))) (hy : ρ.ev y = some v) [hm : UpdS A e 1 n c xs L rem]
    (ht : fr.X.tab[t]? = some (some ⟨it, 1, ib, iv⟩)) (hv : Value.one v = true) (h0 : 0 ≤ q) (hq : q < n)
    (h : J fr ds ρ (Sl e 1 A n c (xs.set q.toNat v) :: rem) (.ops all rest :: k)) : J fr ds ρ L (.ops all (⟨none, .store t x y, ty, pos, af, none⟩ :: rest) :: k) :=
  s_eff0 (fun c e => by cases e) fun a w ha hw o' hop _ => by
    have hw' := hw.perm hm.perm
    have hsz := run_sizeOf (w := w) (fr.X.ti ht)
    obtain ⟨hl, -⟩ := Sl.facts (e := e) (sz := 1) (A := A) (n := n) (c := c) (vs := xs) _ (hw'.has List.mem_cons_self).choose_spec.1
    have hd : Sl e 1 A n c xs (hw'.has List.mem_cons_self).choose ∧ _ := (hw'.has (A := Sl e 1 A n c xs) List.mem_cons_self).choose_spec
    obtain ⟨⟨h1, h2, h3, h4⟩, hin⟩ := hd
    rcases h4 with ⟨_, hc0, _⟩ | ⟨g, cur, rfl, hh, h5, h6⟩
    · omega
    have hat : w.heap[g]? = some (.cells cur.toList.toArray e (0, 0)) := by
      have := hin g (.cells cur e (0, 0)) (by rw [hh]; simp [Hp.one])
      simpa using this
    have hlt : q.toNat < cur.toList.length := by simp only [Array.length_toList]; omega
    have hst := run_store1 (P := P) (o := q.toNat) hat hlt hv
    refine ⟨.skip, w.setCell ⟨g, q.toNat, none⟩ v, Sl e 1 (some ⟨g, 0, none⟩) n c (xs.set q.toNat v) :: rem, ?_, .inl rfl, ?_, h⟩
    · unfold execOp; rw [hop]
      have hx' : ρ.ev x = some (.pointer (some ⟨g, q.toNat, none⟩)) := by rw [hx]; simp [addr_add]
      simp [ha.ev hx', ha.ev hy, Instr.storeAt, Instr.sureAddr, storeVar, hsz, one_cell hv, storeCells, hst, addr_add]
    · refine hw'.turn1 (fun k1 hk1 hi1 => ?_) (by simp) rfl rfl rfl
      obtain ⟨_, _, _, h4⟩ := hk1
      rcases h4 with ⟨hn, _, _⟩ | ⟨g', cur', hg, rfl, h5', h6'⟩
      · cases hn
      cases hg
      have hcur : cur' = cur := by
        have := hi1 g (.cells cur' e (0, 0)) (by simp [Hp.one])
        rw [hat] at this; cases this; simp
      subst hcur
      refine ⟨Hp.one g (.cells (cur'.toList.set q.toNat v).toArray e (0, 0)), ⟨by simpa using h1, h2, h3, .inr ⟨g, _, rfl, rfl, by simpa using h5, ?_⟩⟩, fun b o hb => ?_, fun b o hb => ?_, fun b hb hn => ?_⟩
      · rw [List.length_set, List.take_set, h6]
      · simp only [Hp.one] at hb
        split at hb
        · rename_i e1; cases hb; rw [e1]; exact setCell_heap hat
        · cases hb
      · right
        simp only [Hp.one] at hb ⊢
        split at hb
        · rename_i e1; simp [e1]
        · cases hb
      · refine Below.heap_setCell w _ v b ?_
        intro e1; simp [Hp.one, e1] at hn
theorem s_storeIx {all : Array Oper} {rest : List Oper} {ty : TypeId} {pos : String} {af : Array Edge} {t : TypeId} {x y : Operand} {it : Ty} {ib : Nat} {iv : List Value} {b : Nat} {T : TypeId} {xs : List Int} {rem : List HP} {v q : Int}
    (hx : ρ.ev x = some (.pointer (some (((some (⟨b, 0, none⟩ : Addr)).getD default).add (q.toNat * 1))))) (hy : ρ.ev y = some (.int .i64 v)) [hm : UpdB b T (ints xs) L rem]
    (ht : fr.X.tab[t]? = some (some ⟨it, 1, ib, iv⟩)) (h0 : 0 ≤ q) (hq : q < xs.length)
    (h : J fr ds ρ (cb b T (ints (xs.set q.toNat v)) :: rem) (.ops all rest :: k)) : J fr ds ρ L (.ops all (⟨none, .store t x y, ty, pos, af, none⟩ :: rest) :: k) :=
  s_storeI (b := b) (o := q.toNat) q.toNat (by rw [hx]; simp [addr_add]) rfl hy ht (by omega) h
/-! A guard that was not reached itself. -/
theorem yielded_undef {all : Array Oper} {a : Act} {j t : Nat} (hj : (all[j]?).bind (·.dst) = some t) (ha : Env.ok fr.n ds ρ a) (ht : ρ.get t = some undef) : yielded all a.tmps j = none := by
  have h1 := ha.get t _ ht
  unfold yielded
  rw [hj, Option.bind_some]
  rw [Array.getD_eq_getD_getElem?] at h1
  cases h2 : a.tmps[t]? with
  | none => rfl
  | some u => rw [h2] at h1; simp only [Option.getD_some] at h1; rw [h1]; rfl
theorem s_unguardU {all : Array Oper} {rest : List Oper} {d : Nat} {op : Op} {ty : TypeId} {pos : String} {af : Array Edge} {j t : Nat} {c : Bool} (hj : (all[j]?).bind (·.dst) = some t) (ht : ρ.get t = some undef)
    (hd : Nat.ble (d + 1) fr.n = true) (h : J fr ds ((d, undef) :: ρ) L (.ops all rest :: k)) : J fr ds ρ L (.ops all (⟨some d, op, ty, pos, af, some (j, c)⟩ :: rest) :: k) := by
  intro a w ha hw
  have := h _ w (ha.put hd undef) hw
  have hy := yielded_undef hj ha ht
  change wpListIn (FW fr.r) 0 P all (post fr k) rest _ w at this
  show wpListIn (FW fr.r) 0 P all (post fr k) (⟨some d, op, ty, pos, af, some (j, c)⟩ :: rest) a w
  have hf : (none == some c) = false := rfl
  simp only [wpListIn, Region.wanted, hy, hf, Bool.false_eq_true, if_false]
  exact ⟨fun _ _ => trivial, this⟩
theorem d_skipU {all : Array Oper} {pend : List Pd} {fuel : Nat} {listed : Array Bool} (i : Nat) {d : Nat} {op : Op} {ty : TypeId} {pos : String} {af : Array Edge} {j t : Nat} {c : Bool} (hi : all[i]? = some ⟨some d, op, ty, pos, af, some (j, c)⟩) (hok : okTake all listed i = true) (hdf : ∀ c, op ≠ .defer c)
    (hj : (all[j]?).bind (·.dst) = some t) (ht : ρ.get t = some undef) (hd : Nat.ble (d + 1) fr.n = true)
    (h : JD fr ds ((d, undef) :: ρ) L all pend fuel (listed.setIfInBounds i true) k) : JD fr ds ρ L all pend (fuel + 1) listed k := by
  intro pa hpa a w ha hw hre
  simp only [okTake, Bool.and_eq_true] at hok
  have hf : (none == some c) = false := rfl
  have hya : YA P all ⟨some d, op, ty, pos, af, some (j, c)⟩ undef a w := .inr ⟨by simp only [Region.wanted, yielded_undef hj ha ht, hf], rfl⟩
  refine wpAnyP_first hi hdf (Region.noSelect_spec hok.1) (fun _ _ _ => id) fuel pa listed a w (Region.free_spec hi hok.2.1) (by simpa using hok.2.2) ⟨rfl, rfl⟩ hya hre ?_
  refine wpAnyP_add (fun w o ho => ?_) _ _ _ _ _ (h _ hpa _ w (ha.put hd undef) hw hre)
  rw [hi] at ho
  cases ho
  exact .inr ⟨by simp only [Region.wanted, yielded_undef hj ha ht, hf], rfl⟩
/-- An operation without a value that is guarded away. -/
theorem s_unguard0 {all : Array Oper} {rest : List Oper} {op : Op} {ty : TypeId} {pos : String} {af : Array Edge} {j t : Nat} {b c : Bool} (hj : (all[j]?).bind (·.dst) = some t) (ht : ρ.get t = some (.bool b)) (hc : (b == c) = false)
    (h : J fr ds ρ L (.ops all rest :: k)) : J fr ds ρ L (.ops all (⟨none, op, ty, pos, af, some (j, c)⟩ :: rest) :: k) := by
  intro a w ha hw
  have := h _ w (ha.skip undef) hw
  have hy := yielded_of hj ha ht
  change wpListIn (FW fr.r) 0 P all (post fr k) rest _ w at this
  show wpListIn (FW fr.r) 0 P all (post fr k) (⟨none, op, ty, pos, af, some (j, c)⟩ :: rest) a w
  have hf : (some b == some c) = false := hc
  simp only [wpListIn, Region.wanted, hy, hf, Bool.false_eq_true, if_false]
  exact ⟨fun _ _ => trivial, this⟩
end
end Go.E

/- Kit E, part 17: reading rows of the call's own; append that keeps the row it grew from; many items of one sort. -/
set_option linter.unusedVariables false
namespace Go.E
open Go Go.RowKit
section
variable {P : Program} {fr : Fr P} {ds : List Deferred} {ρ : Env} {L : List HP} {k : List It} {ty : TypeId} {all : Array Oper} {rest : List Oper} {d : Nat} {pos : String} {af : Array Edge}
theorem Sl.some {e sz n c : Nat} {A : Option Addr} {vs : List Value} {h : Hp} (s : Sl e sz A n c vs h) (hn : 0 < n) : A.isSome = true := by
  obtain ⟨_, h2, _, h4⟩ := s
  rcases h4 with ⟨_, hc, _⟩ | ⟨g, cur, rfl, _⟩
  · omega
  · rfl
/-- The place of an element of an owned row. -/
theorem y_ixO {t e e' : TypeId} {x ix : Operand} {i : TI} {jt : Ty} {jz jb : Nat} {jv : List Value} {A : Option Addr} {n c n' sz c' : Nat} {kd : IntKind} {q : Int} {xs : List Value} (hx : ρ.ev x = some (.slice A n c)) (hix : ρ.ev ix = some (.int kd q)) (hs : fr.X.tab[t]? = some (some i))
    (hi : i.ty = .sl e) (hj : fr.X.tab[e]? = some (some ⟨jt, jz, jb, jv⟩)) [hm : HasS A e' sz n' c' xs L] (h0 : 0 ≤ q) (h1 : q < n) (hn : n ≤ n') : Yd fr ds ρ L (.indexAddr t x ix) ty (.pointer (some ((A.getD default).add (q.toNat * jz)))) := by
  refine exec_v (fun c e => by cases e) fun a w ha hw dst pos af g => ?_
  obtain ⟨kh, hk, _⟩ := hw.has hm.mem
  obtain ⟨ad, rfl⟩ := Option.isSome_iff_exists.1 (hk.some (by omega))
  exact (y_indexAddr (ad := ad) hx hix hs hi hj h0 h1 rfl).2 a w ha hw _ rfl rfl
/-- An element (one cell) of an owned row. -/
theorem y_ldO {t : TypeId} {x : Operand} {i : TI} {A : Option Addr} {e n c : Nat} {sz : Nat} {q : Int} {xs : List Value} {v : Value} (hx : ρ.ev x = some (.pointer (some ((A.getD default).add (q.toNat * sz))))) (ht : fr.X.tab[t]? = some (some i)) (hi : i.ty.agg = false)
    (h1 : Nat.beq sz 1 = true) [hm : HasS A e 1 n c xs L] (hv : xs[q.toNat]? = some v) : Yd fr ds ρ L (.load t x) ty v :=
  y_load1 hx ht hi fun w hw => by
    have e : sz = 1 := Nat.eq_of_beq_eq_true h1
    subst e
    obtain ⟨ad, rfl, hc⟩ := hw.slRd hm.mem _ _ hv
    simpa using hc
/-- A number of an owned row. -/
theorem y_ldOi {t : TypeId} {x : Operand} {i : TI} {A : Option Addr} {e n c : Nat} {sz : Nat} {q : Nat} {xs : List Int} (hx : ρ.ev x = some (.pointer (some ((A.getD default).add ((q : Int).toNat * sz))))) (ht : fr.X.tab[t]? = some (some i)) (hi : i.ty.agg = false)
    (h1 : Nat.beq sz 1 = true) [hm : HasS A e 1 n c (ints xs) L] (hq : q < xs.length) : Yd fr ds ρ L (.load t x) ty (.int .i64 (xs.getD q 0)) :=
  y_ldO hx ht hi h1 (by rw [Int.toNat_natCast]; exact ints_get hq)
/-- append that keeps the row it grew from, where it had to move. -/
theorem Sat.append2 {base : World} {M : Nat → Prop} {L : List HP} {w : World} {t ty e : TypeId} {A : Option Addr} {n c m c' sz ib : Nat} {i : TI} {xs news : List Value} {ad : Addr} {t0 : TI}
    (h : Sat base M (Sl e sz A n c xs :: L) w) (ht : TI.of P t = some t0) (ht0 : t0.ty = .sl e) (hi : TI.of P e = some i) (hsz : i.size = sz) (hby : i.bytes = ib) (hz : i.zero.length = sz) (h0 : 0 < sz)
    (hl : news.length = m * sz) (hnews : ∀ j u, news[j]? = some u → w.cell? (ad.add j) = some u) (h1 : ∀ u ∈ news, Value.one u = true) (h63 : n + m ≤ 4611686018427387904) (hbytes : (n + m) * ib ≤ 140737488355328) :
    ∃ A' c'' w', (Builtin.append_ #[t, t] ty #[.slice A n c, .slice (some ad) m c']).run P w = .ok (.slice A' (n + m) c'') w' ∧
      ((A' = A ∧ c'' = c ∧ Sat base M (Sl e sz A (n + m) c (xs ++ news) :: L) w') ∨ Sat base M (Sl e sz A' (n + m) c'' (xs ++ news) :: Sl e sz A n c xs :: L) w') := by
  obtain ⟨A', c'', w', hr, hs⟩ := h.append (ty := ty) ht ht0 hi hsz hby hz h0 hl (c' := c') hnews h1 h63 hbytes
  obtain ⟨d, inf, z, g1, g2, g3, g4, g5, g6, g7⟩ := TI.of_spec ht
  rw [ht0] at g4
  have := Ty.of_sl g4
  subst this
  obtain ⟨d', inf', z', k1, k2, k3, k4, k5, k6, k7⟩ := TI.of_spec hi
  have hone : ∀ u ∈ news, u.oneCell' = true := fun u hu => by have := h1 u hu; cases u <;> first | rfl | cases this
  have hfi : inf'.size = sz := k5.trans hsz
  have hfb : inf'.bytes = ib := k6.trans hby
  have hzs : z'.cells.size = sz := by rw [← Array.length_toList, k7, hz]
  refine ⟨A', c'', w', hr, ?_⟩
  obtain ⟨kh, hk, hin⟩ := h.has (A := Sl e sz A n c xs) List.mem_cons_self
  have grown : ∀ old, old < n + m → ∀ w2, w2 = w.drew.alloc (.cells (xs.toArray ++ news.toArray ++ Builtin.zeroCells z'.cells (grownCap w (n + m) old e - (n + m))) e) →
      A' = some ⟨w.heap.size, 0, none⟩ → c'' = grownCap w (n + m) old e → w' = w2 → Sat base M (Sl e sz A' (n + m) c'' (xs ++ news) :: Sl e sz A n c xs :: L) w' := by
    intro old ho w2 e2 eA ec ew
    rw [ew, e2]
    have hge := grownCap_ge w (n + m) old e
    have hcm : grownCap w (n + m) old e ≤ maxLen := grownCap_le_maxLen w (n + m) old e (by unfold maxLen; omega)
    have ha := (h.drew).alloc (.cells (xs.toArray ++ news.toArray ++ Builtin.zeroCells z'.cells (grownCap w (n + m) old e - (n + m))) e)
    have hlen : (xs ++ news).length = (n + m) * sz := by rw [List.length_append, hk.1, hl, Nat.add_mul]
    refine ha.imp fun k1 hk1 => ⟨hlen, by rw [ec]; exact hge, by rw [ec]; exact hcm, .inr ⟨w.heap.size, _, eA, hk1, ?_, ?_⟩⟩
    · rw [ec]
      simp only [Array.size_append, List.size_toArray, size_zeroCells, hzs, hk.1, hl, ← Nat.add_mul]
      congr 1
      omega
    · simp only [Array.toList_append, List.append_assoc]
      rw [← List.append_assoc]
      exact List.take_left
  obtain ⟨b1, b2, b3, b4⟩ := hk
  rcases b4 with ⟨rfl, rfl, rfl⟩ | ⟨g, cur, rfl, rfl, b5, b6⟩
  · have hn : n = 0 := by omega
    subst hn
    have hx : xs = [] := List.eq_nil_of_length_eq_zero (by simpa using b1)
    subst hx
    by_cases hm : m = 0
    · subst hm
      have hn : news = [] := List.eq_nil_of_length_eq_zero (by simpa using hl)
      subst hn
      have hr' : (Builtin.append_ #[t, t] ty #[.slice none 0 0, .slice (some ad) 0 c']).run P w = .ok (.slice none 0 0) w := by
        simp [Builtin.append_, run_underlying g1, Go.sizeOf, typeInfo, k2, Builtin.lenOf, Builtin.firstCells, loadCells, loadCellsFrom]
      rw [hr'] at hr
      cases hr
      exact .inl ⟨rfl, rfl, hs⟩
    · have hr' := Go.run_append_nil (P := P) w t ty e inf' z' g1 k2 k3 ad m c' news (by rw [hl, hfi]) hnews (by omega) (by omega) (by rw [hfb]; have hb := hbytes; simp only [Nat.zero_add] at hb; omega)
      simp only [Nat.zero_add] at hr
      rw [hr'] at hr
      cases hr
      exact .inr (grown 0 (by omega) _ rfl rfl (by simp) (by simp))
  · have hat : w.heap[g]? = some (.cells cur e (0, 0)) := hin g _ (by simp [Hp.one])
    by_cases hroom : n + m ≤ c
    · have hfit : n * inf'.size + news.length ≤ cur.size := by rw [hl, b5, hfi, ← Nat.add_mul]; exact Nat.mul_le_mul_right _ hroom
      have hr' := run_append_room (P := P) w t ty e inf' g1 k2 g n c cur hat ad m c' news (by rw [hl, hfi]) hnews hone hroom hfit
      rw [hr'] at hr
      cases hr
      exact .inl ⟨rfl, rfl, hs⟩
    · have holds : ∀ j u, xs[j]? = some u → w.cell? ((⟨g, 0, none⟩ : Addr).add j) = some u := fun j u hj => by
        obtain ⟨ad', hA', hc⟩ := Sl.rd (e := e) (sz := sz) (n := n) (c := c) (A := some ⟨g, 0, none⟩) (vs := xs) ⟨b1, b2, b3, .inr ⟨g, cur, rfl, rfl, b5, b6⟩⟩ hin j u hj
        cases hA'; exact hc
      have hr' := run_append_grow (P := P) w t ty e inf' z' g1 k2 k3 ⟨g, 0, none⟩ n c xs (by rw [b1, hfi]) holds ad m c' news (by rw [hl, hfi]) hnews (by omega) (by omega) (growslice_fits (by omega) (by rw [hfb]; exact hbytes))
      rw [hr'] at hr
      cases hr
      exact .inr (grown c (by omega) _ rfl rfl rfl rfl)
/-- A row, and what has grown from it: the same memory, or another. -/
def Tw (e : TypeId) (A : Option Addr) (n c : Nat) (G : Option Addr) (m d : Nat) (ys : List Value) : HP := fun h =>
  n ≤ m ∧ ((G = A ∧ d = c ∧ Sl e 1 A m c ys h) ∨ star [Sl e 1 G m d ys, Sl e 1 A n c (ys.take n)] h)
theorem Tw.begin {e : TypeId} {A : Option Addr} {n c : Nat} {xs : List Value} : ∀ h, Sl e 1 A n c xs h → Tw e A n c A n c xs h := fun h s => ⟨Nat.le_refl _, .inl ⟨rfl, rfl, s⟩⟩
theorem Sl.shrink {e : TypeId} {A : Option Addr} {m n c : Nat} {ys : List Value} {h : Hp} (hn : n ≤ m) (s : Sl e 1 A m c ys h) : Sl e 1 A n c (ys.take n) h := by
  obtain ⟨h1, h2, h3, h4⟩ := s
  have hl : (ys.take n).length = n := by rw [List.length_take]; omega
  refine ⟨by omega, by omega, h3, h4.imp id fun ⟨g, cur, a, b, c1, c2⟩ => ⟨g, cur, a, b, c1, ?_⟩⟩
  rw [hl]
  conv => rhs; rw [← c2]
  rw [List.take_take, Nat.min_eq_left (by omega)]
theorem Sat.tw {base : World} {M : Nat → Prop} {e : TypeId} {A G : Option Addr} {n c m d : Nat} {ys : List Value} {w : World} (h : Sat base M (Tw e A n c G m d ys :: L) w) :
    n ≤ m ∧ ((G = A ∧ d = c ∧ Sat base M (Sl e 1 A m c ys :: L) w) ∨ Sat base M (Sl e 1 G m d ys :: Sl e 1 A n c (ys.take n) :: L) w) := by
  obtain ⟨kh, ⟨h1, h2, ⟨hn, ht⟩, l, d1, rfl⟩, i, f⟩ := h.hp
  refine ⟨hn, ?_⟩
  rcases ht with ⟨a, b, s⟩ | s
  · exact .inl ⟨a, b, ⟨⟨h1.add h2, ⟨h1, h2, s, l, d1, rfl⟩, i, f⟩, h.since⟩⟩
  · exact .inr (Sat.group.1 ⟨⟨h1.add h2, ⟨h1, h2, s, l, d1, rfl⟩, i, f⟩, h.since⟩)
/-- What it grew from, alone. -/
theorem Sat.twOld {base : World} {M : Nat → Prop} {e : TypeId} {A G : Option Addr} {n c m d : Nat} {ys : List Value} {w : World} (h : Sat base M (Tw e A n c G m d ys :: L) w) : Sat base M (Sl e 1 A n c (ys.take n) :: L) w := by
  obtain ⟨hn, ⟨-, -, s⟩ | s⟩ := h.tw
  · exact s.imp fun k hk => hk.shrink hn
  · exact (s.perm (L' := Sl e 1 A n c (ys.take n) :: L ++ [Sl e 1 G m d ys]) (by simpa using (List.perm_append_comm (l₁ := [Sl e 1 G m d ys]) (l₂ := Sl e 1 A n c (ys.take n) :: L)))).left
theorem J.twOld {e : TypeId} {A G : Option Addr} {n c m d : Nat} {ys : List Value} (h : J fr ds ρ (Sl e 1 A n c (ys.take n) :: L) k) : J fr ds ρ (Tw e A n c G m d ys :: L) k := fun a w ha hw => h a w ha hw.twOld
theorem Sat.twRd {base : World} {M : Nat → Prop} {e : TypeId} {A G : Option Addr} {n c m d : Nat} {ys : List Value} {w : World} (h : Sat base M (Tw e A n c G m d ys :: L) w) :
    (∀ j v, ys[j]? = some v → ∃ ad, G = some ad ∧ w.cell? (ad.add j) = some v) ∧ (∀ j v, j < n → ys[j]? = some v → ∃ ad, A = some ad ∧ w.cell? (ad.add j) = some v) := by
  obtain ⟨hn, ⟨rfl, rfl, s⟩ | s⟩ := h.tw
  · have := s.slRd List.mem_cons_self
    exact ⟨this, fun j v _ hv => this j v hv⟩
  · refine ⟨s.slRd List.mem_cons_self, fun j v hj hv => s.slRd (List.mem_cons_of_mem _ List.mem_cons_self) j v ?_⟩
    rw [List.getElem?_take_of_lt hj]; exact hv
/-! Many items of one sort. -/
def bs (f : Nat → HP) (n : Nat) : HP := star ((List.range n).map f)
def bx (f : Nat → HP) (n j : Nat) : HP := star ((List.range j).map f ++ (List.range' (j + 1) (n - 1 - j)).map f)
theorem bs_perm {n j : Nat} (h : j < n) (f : Nat → HP) : ((List.range n).map f).Perm (f j :: ((List.range j).map f ++ (List.range' (j + 1) (n - 1 - j)).map f)) := by
  have e : List.range n = List.range j ++ j :: List.range' (j + 1) (n - 1 - j) := by
    have e1 : n = j + ((n - 1 - j) + 1) := by omega
    conv => lhs; rw [e1, List.range_eq_range', ← List.range'_append_1, Nat.zero_add, List.range'_succ]
    rw [List.range_eq_range']
  rw [e, List.map_append, List.map_cons]
  exact List.perm_middle
theorem star_pair {A B : HP} {h : Hp} : star [A, B] h ↔ ∃ h1 h2, A h1 ∧ B h2 ∧ Hp.Disj h1 h2 ∧ h = h1.add h2 := by
  constructor
  · rintro ⟨h1, h2, a, s, d, e⟩; exact ⟨h1, h2, a, star_one.1 s, d, e⟩
  · rintro ⟨h1, h2, a, s, d, e⟩; exact ⟨h1, h2, a, star_one.2 s, d, e⟩
theorem bs_focus {f : Nat → HP} {n j : Nat} (h : j < n) (hp : Hp) : bs f n hp ↔ star [f j, bx f n j] hp := by
  rw [star_pair]
  constructor
  · intro s
    obtain ⟨h1, h2, a, b, d, e⟩ := star_perm (bs_perm h f) _ s
    exact ⟨h1, h2, a, b, d, e⟩
  · rintro ⟨h1, h2, a, b, d, e⟩
    exact star_perm (bs_perm h f).symm _ ⟨h1, h2, a, b, d, e⟩
theorem bx_congr {f g : Nat → HP} {n j : Nat} (hj : j < n) (h : ∀ i, i < n → i ≠ j → f i = g i) : bx f n j = bx g n j := by
  unfold bx
  congr 2
  · exact List.map_congr_left fun x hx => by
      have := List.mem_range.1 hx
      exact h x (by omega) (by omega)
  · exact List.map_congr_left fun x hx => by
      have := List.mem_range'_1.1 hx
      exact h x (by omega) (by omega)
theorem J.focus {f : Nat → HP} {n : Nat} (j : Nat) (hj : j < n) (h : J fr ds ρ (f j :: bx f n j :: L) k) : J fr ds ρ (bs f n :: L) k :=
  J.imp (B := star [f j, bx f n j]) (fun hp hh => (bs_focus hj hp).1 hh) (J.group.2 h)
theorem J.unfocus {f : Nat → HP} {A : HP} {n j : Nat} (g : Nat → HP) (hj : j < n) (hA : A = g j) (hg : ∀ i, i < n → i ≠ j → f i = g i) (h : J fr ds ρ (bs g n :: L) k) : J fr ds ρ (A :: bx f n j :: L) k := by
  have h2 : J fr ds ρ (star [A, bx f n j] :: L) k := J.imp (B := bs g n) (fun hp hh => by rw [hA, bx_congr hj hg] at hh; exact (bs_focus hj hp).2 hh) h
  exact (J.group (K := [A, bx f n j])).1 h2
theorem J.bsCongr {f g : Nat → HP} {n : Nat} (hg : ∀ i, i < n → f i = g i) (h : J fr ds ρ (bs g n :: L) k) : J fr ds ρ (bs f n :: L) k := by
  have : bs f n = bs g n := by
    unfold bs
    congr 1
    exact List.map_congr_left fun x hx => hg x (List.mem_range.1 hx)
  rw [this]; exact h
end
end Go.E

/- Kit E, part 18: append onto what has grown from a row; reading both. -/
set_option linter.unusedVariables false
namespace Go.E
open Go Go.RowKit
section
variable {P : Program} {fr : Fr P} {ds : List Deferred} {ρ : Env} {L : List HP} {k : List It} {ty : TypeId} {all : Array Oper} {rest : List Oper} {dst : Nat} {pos : String} {af : Array Edge}
theorem J.focusA {f : Nat → HP} {n : Nat} (j : Nat) (A : HP) (hj : j < n) (hA : f j = A) (h : J fr ds ρ (A :: bx f n j :: L) k) : J fr ds ρ (bs f n :: L) k := J.focus j hj (hA ▸ h)
theorem Sl.len1 {e n c : Nat} {A : Option Addr} {vs : List Value} {h : Hp} (s : Sl e 1 A n c vs h) : vs.length = n := by have := s.1; omega
theorem Sat.mkTw {base : World} {M : Nat → Prop} {e : TypeId} {A G : Option Addr} {n c m d : Nat} {ys : List Value} {w : World} (hn : n ≤ m) (h : Sat base M (Sl e 1 G m d ys :: Sl e 1 A n c (ys.take n) :: L) w) : Sat base M (Tw e A n c G m d ys :: L) w := by
  have h2 : Sat base M (star [Sl e 1 G m d ys, Sl e 1 A n c (ys.take n)] :: L) w := Sat.group.2 h
  exact h2.imp fun k hk => ⟨hn, .inr hk⟩
theorem s_appendTw {x y : Operand} {t e : TypeId} {A G B : Option Addr} {n c m d q c' ib : Nat} {ys news : List Value} {ib0 : Nat} {iv0 : List Value} {ity : Ty} {iv : List Value} {rem : List HP} {sz0 : Nat}
    (hx : ρ.ev x = some (.slice G m d)) (hy : ρ.ev y = some (.slice B q c')) (hL : L.Perm (Tw e A n c G m d ys :: rem)) (hnews : ∀ w, Sat fr.base fr.M L w → ∃ ad, B = some ad ∧ ∀ j u, news[j]? = some u → w.cell? (ad.add j) = some u)
    (ht : fr.X.tab[t]? = some (some ⟨.sl e, sz0, ib0, iv0⟩)) (hi : fr.X.tab[e]? = some (some ⟨ity, 1, ib, iv⟩))
    (hz : iv.length = 1) (hd : Nat.ble (dst + 1) fr.n = true) (hl : news.length = q) (h1 : ∀ u ∈ news, Value.one u = true) (h63 : m + q ≤ 1099511627776) (hbytes : Nat.ble ib 100 = true)
    (h : ∀ G' d', J fr ds ((dst, .slice G' (m + q) d') :: ρ) (Tw e A n c G' (m + q) d' (ys ++ news) :: rem) (.ops all rest :: k)) :
    J fr ds ρ L (.ops all (⟨some dst, .call ⟨.builtin .append, #[x, y], #[t, t]⟩, ty, pos, af, none⟩ :: rest) :: k) :=
  s_eff (fun c e => by cases e) hd fun a w ha hw o ho _ => by
    have hw' := hw.perm hL
    obtain ⟨ad, rfl, hc⟩ := hnews w hw
    have hby : (m + q) * ib ≤ 140737488355328 := Nat.le_trans (Nat.mul_le_mul_left _ (Nat.le_of_ble_eq_true hbytes)) (by omega)
    obtain ⟨hnm, hw2⟩ := hw'.tw
    have hys : ys.length = m := by
      rcases hw2 with ⟨_, _, s⟩ | s
      · obtain ⟨kh, hk, _⟩ := s.has List.mem_cons_self; exact hk.len1
      · obtain ⟨kh, hk, _⟩ := s.has List.mem_cons_self; exact hk.len1
    have htk : (ys ++ news).take n = ys.take n := by rw [List.take_append_of_le_length (by omega)]
    rcases hw2 with ⟨rfl, rfl, s⟩ | s
    · obtain ⟨A', c'', w', hr, hs⟩ := s.append2 (ty := o.type) (fr.X.ti ht) rfl (fr.X.ti hi) rfl rfl hz Nat.one_pos (by rw [hl, Nat.mul_one]) (c' := c') hc h1 (by omega) hby
      refine ⟨.slice A' (m + q) c'', w', _, ?_, ?_, h A' c''⟩
      · unfold execOp; rw [ho]
        simp [resolve, invoke, builtin, ha.ev hx, ha.ev hy, hr]
      · rcases hs with ⟨rfl, rfl, hs⟩ | hs
        · exact hs.imp fun k hk => ⟨by omega, .inl ⟨rfl, rfl, hk⟩⟩
        · refine Sat.mkTw (by omega) ?_
          refine (Sat.perm (List.Perm.swap _ _ _) (hs.perm (List.Perm.swap _ _ _) |>.imp fun k hk => ?_))
          rw [htk]
          exact hk.shrink hnm
    · obtain ⟨A', c'', w', hr, hs⟩ := s.append (ty := o.type) (fr.X.ti ht) rfl (fr.X.ti hi) rfl rfl hz Nat.one_pos (by rw [hl, Nat.mul_one]) (c' := c') hc h1 (by omega) hby
      refine ⟨.slice A' (m + q) c'', w', _, ?_, ?_, h A' c''⟩
      · unfold execOp; rw [ho]
        simp [resolve, invoke, builtin, ha.ev hx, ha.ev hy, hr]
      · refine Sat.mkTw (by omega) ?_
        rw [htk]; exact hs
/-- The place of an element of what has grown, or of the row that it grew from. -/
theorem y_ixTw {t e e' : TypeId} {x ix : Operand} {i : TI} {jt : Ty} {jz jb : Nat} {jv : List Value} {A G B : Option Addr} {n c m d n' c' : Nat} {kd : IntKind} {q : Int} {ys : List Value} (hm : Tw e' A n c G m d ys ∈ L) (hB : (B = G ∧ q < m) ∨ (B = A ∧ q < n)) (hx : ρ.ev x = some (.slice B n' c')) (hix : ρ.ev ix = some (.int kd q)) (hs : fr.X.tab[t]? = some (some i))
    (hi : i.ty = .sl e) (hj : fr.X.tab[e]? = some (some ⟨jt, jz, jb, jv⟩)) (h0 : 0 ≤ q) (h1 : q < n') : Yd fr ds ρ L (.indexAddr t x ix) ty (.pointer (some ((B.getD default).add (q.toNat * jz)))) := by
  refine exec_v (fun c e => by cases e) fun a w ha hw dst pos af g => ?_
  obtain ⟨kh, hk, hin⟩ := hw.has hm
  have hA : B.isSome = true := by
    obtain ⟨hn, ht⟩ := hk
    rcases ht with ⟨rfl, rfl, s⟩ | s
    · rcases hB with ⟨rfl, h2⟩ | ⟨rfl, h2⟩
      · exact s.some (by omega)
      · exact s.some (by omega)
    · obtain ⟨h1', h2', a1, a2, _, _⟩ := star_pair.1 s
      rcases hB with ⟨rfl, h2⟩ | ⟨rfl, h2⟩
      · exact a1.some (by omega)
      · exact a2.some (by omega)
  obtain ⟨ad, rfl⟩ := Option.isSome_iff_exists.1 hA
  exact (y_indexAddr (ad := ad) hx hix hs hi hj h0 h1 rfl).2 a w ha hw _ rfl rfl
theorem y_ldTw {t e : TypeId} {x : Operand} {i : TI} {A G B : Option Addr} {n c m d sz : Nat} {q : Nat} {ys : List Value} {v : Value} (hm : Tw e A n c G m d ys ∈ L) (hB : B = G ∨ (B = A ∧ q < n)) (hx : ρ.ev x = some (.pointer (some ((B.getD default).add ((q : Int).toNat * sz))))) (ht : fr.X.tab[t]? = some (some i)) (hi : i.ty.agg = false)
    (h1 : Nat.beq sz 1 = true) (hv : ys[q]? = some v) : Yd fr ds ρ L (.load t x) ty v :=
  y_load1 hx ht hi fun w hw => by
    have e1 : sz = 1 := Nat.eq_of_beq_eq_true h1
    subst e1
    obtain ⟨l1, l2, hp⟩ := List.append_of_mem hm
    subst hp
    have hw2 : Sat fr.base fr.M (Tw e A n c G m d ys :: (l1 ++ l2)) w := hw.perm List.perm_middle
    obtain ⟨r1, r2⟩ := hw2.twRd
    rcases hB with rfl | ⟨rfl, hq⟩
    · obtain ⟨ad, rfl, hc⟩ := r1 q v hv
      simpa using hc
    · obtain ⟨ad, rfl, hc⟩ := r2 q v hq hv
      simpa using hc
theorem y_ldOn {t : TypeId} {x : Operand} {i : TI} {A : Option Addr} {e n c : Nat} {sz : Nat} {q : Nat} {xs : List Value} {v : Value} (hx : ρ.ev x = some (.pointer (some ((A.getD default).add ((q : Int).toNat * sz))))) (ht : fr.X.tab[t]? = some (some i)) (hi : i.ty.agg = false)
    (h1 : Nat.beq sz 1 = true) [hm : HasS A e 1 n c xs L] (hv : xs[q]? = some v) : Yd fr ds ρ L (.load t x) ty v := y_ldO hx ht hi h1 (by rw [Int.toNat_natCast]; exact hv)
/-- What an owned row of one's own, or a block, gives to append. -/
theorem newsB {b T : Nat} {news : List Value} (hm : cb b T news ∈ L) : ∀ w, Sat fr.base fr.M L w → ∃ ad, some (⟨b, 0, none⟩ : Addr) = some ad ∧ ∀ j u, news[j]? = some u → w.cell? (ad.add j) = some u := fun w hw =>
  ⟨⟨b, 0, none⟩, rfl, fun j u hj => by have := hw.cbcell hm (o := j) hj; rw [addr_add, Nat.zero_add]; exact this⟩
theorem newsS {A : Option Addr} {e n c : Nat} {news : List Value} (hm : Sl e 1 A n c news ∈ L) (hn : 0 < n) : ∀ w, Sat fr.base fr.M L w → ∃ ad, A = some ad ∧ ∀ j u, news[j]? = some u → w.cell? (ad.add j) = some u := fun w hw => by
  obtain ⟨kh, hk, _⟩ := hw.has hm
  obtain ⟨ad, rfl⟩ := Option.isSome_iff_exists.1 (hk.some hn)
  refine ⟨ad, rfl, fun j u hj => ?_⟩
  obtain ⟨ad', e1, hc⟩ := hw.slRd hm j u hj
  cases e1; exact hc
theorem J.rot {A B C : HP} (h : J fr ds ρ (B :: C :: A :: L) k) : J fr ds ρ (A :: B :: C :: L) k := J.perm ((List.Perm.swap _ _ _).trans (List.Perm.cons _ (List.Perm.swap _ _ _))) h
theorem J.swap {A B : HP} (h : J fr ds ρ (B :: A :: L) k) : J fr ds ρ (A :: B :: L) k := J.perm (List.Perm.swap _ _ _) h
theorem ints_set' (xs : List Int) (j : Nat) (v : Int) : (ints xs).set j (.int .i64 v) = ints (xs.set j v) := by simp [ints, List.map_set]
end
end Go.E

/- Kit E, part 19: == and != of structs of numbers and Bools; a whole element of an owned row; what a call owns, told otherwise. -/
set_option linter.unusedVariables false
namespace Go.E
open Go Go.RowKit
theorem Owns.mono {w : World} {pre pre' : List HP} {M : Nat → Prop} (f : ∀ h, star pre h → star pre' h) (h : Owns w pre M) : Owns w pre' M := let ⟨k, s, i, g⟩ := h; ⟨k, f k s, i, g⟩
/-- A part of a struct: a number, or a Bool. -/
inductive Prim where
  | i (n : Int)
  | b (c : Bool)
deriving DecidableEq
def Prim.val : Prim → Value
  | .i n => .int .i64 n
  | .b c => .bool c
def Prim.num : Prim → Bool
  | .i _ => true
  | .b _ => false
def fkind (P : Program) (t : TypeId) : Option Bool := match P.underlying t with | some (.int .i64) => some true | some .bool => some false | _ => none
/-- What is asked of a struct type, once: where its fields lie, of which sorts. -/
def fieldsAre (P : Program) (t : TypeId) (l : List (Nat × Bool)) : Bool :=
  (P.fieldsOf t).toList.map (fun f => (f.offset, f.name != "_", fkind P f.type)) == l.map (fun x => (x.1, true, some x.2)) &&
  (match P.underlying t with | some (.struct fs) => fs.size == l.length | _ => false) && !P.stoodInHeld t && !P.eqGuardType P.depth t && (P.fieldsOf t).toList.all (fun f => match P.info? f.type with | some i => i.size == 1 && (match P.underlying f.type with | some (.int _) => true | some .bool => true | _ => false) | none => false)
section
variable {P : Program} {fr : Fr P} {ds : List Deferred} {ρ : Env} {L : List HP} {k : List It} {ty : TypeId}
theorem fkind_int {t : TypeId} (h : fkind P t = some true) : P.underlying t = some (.int .i64) := by
  unfold fkind at h
  split at h
  · assumption
  · cases h
  · cases h
theorem fkind_bool {t : TypeId} (h : fkind P t = some false) : P.underlying t = some .bool := by
  unfold fkind at h
  split at h
  · cases h
  · assumption
  · cases h
theorem run_part1 {t : TypeId} {cs : Array Value} {o : Nat} {w : World} {v : Value} {b : Bool} (hk : fkind P t = some b) (hv : cs[o]? = some v) : (part t cs o).run P w = .ok v w := by
  have hu : ∃ d, P.underlying t = some d ∧ (d = .int .i64 ∨ d = .bool) := by
    cases b with
    | true => exact ⟨_, fkind_int hk, .inl rfl⟩
    | false => exact ⟨_, fkind_bool hk, .inr rfl⟩
  obtain ⟨d, hd, h2⟩ := hu
  obtain ⟨hl, he⟩ := Array.getElem?_eq_some_iff.1 hv
  rcases h2 with rfl | rfl <;> simp [part, isAgg, run_underlying hd, hl, he]
theorem run_eqFields {xs ys : Array Value} {w : World} (d : Nat) : ∀ (fs : List Field) (l : List (Nat × Bool)) (ps qs : List Prim), fs.map (fun f => (f.offset, f.name != "_", fkind P f.type)) = l.map (fun x => (x.1, true, some x.2)) →
    ps.length = l.length → qs.length = l.length → (∀ (j : Nat) (x : Nat × Bool) (p q : Prim), l[j]? = some x → ps[j]? = some p → qs[j]? = some q → xs[x.1]? = some p.val ∧ ys[x.1]? = some q.val ∧ p.num = x.2 ∧ q.num = x.2) →
    (Op.eqFields (d + 1) xs ys fs).run P w = .ok (decide (ps = qs)) w
  | [], [], [], [], _, _, _, _ => by simp [Op.eqFields]
  | f :: fs, x :: l, p :: ps, q :: qs, hf, h1, h2, h3 => by
    simp only [List.map_cons, List.cons.injEq, Prod.mk.injEq] at hf
    obtain ⟨⟨e1, e2, e3⟩, hf⟩ := hf
    obtain ⟨a1, a2, a3, a4⟩ := h3 0 x p q rfl rfl rfl
    have ih := run_eqFields (xs := xs) (ys := ys) (w := w) d fs l ps qs hf (by simpa using h1) (by simpa using h2) (fun j x' p' q' b1 b2 b3 => h3 (j + 1) x' p' q' b1 b2 b3)
    have p1 := run_part1 (w := w) e3 (e1 ▸ a1)
    have p2 := run_part1 (w := w) e3 (e1 ▸ a2)
    have hne : f.name ≠ "_" := by simpa using e2
    have he : (Op.equalIn (d + 1) f.type p.val q.val).run P w = .ok (decide (p = q)) w := by
      rw [← a3] at e3
      cases p with
      | i m =>
        cases q with
        | i n =>
          have := fkind_int e3
          rw [show Prim.val (.i m) = Value.int .i64 m from rfl, show Prim.val (.i n) = Value.int .i64 n from rfl, run_equalIn_int w d f.type .i64 .i64 m n this]
          congr 1
          rw [Bool.eq_iff_iff]; simp
        | b c => rw [← a3] at a4; cases a4
      | b c =>
        cases q with
        | i n => rw [← a3] at a4; cases a4
        | b c' =>
          have := fkind_bool e3
          rw [show Prim.val (.b c) = Value.bool c from rfl, show Prim.val (.b c') = Value.bool c' from rfl, run_equalIn_bool' w d f.type c c' this]
          congr 1
          rw [Bool.eq_iff_iff]; simp
    simp only [Op.eqFields, Sem.run_bind, Sem.run_ite, if_pos hne, p1, p2, Result.andThen_ok, he]
    by_cases hpq : p = q
    · subst hpq
      simp [ih]
    · simp [hpq]
theorem run_eqSt {t : TypeId} {l : List (Nat × Bool)} {xs ys : List Value} {ps qs : List Prim} {w : World} (hf : fieldsAre P t l = true) (h1 : ps.length = l.length) (h2 : qs.length = l.length) (hl : l.map (·.1) = List.range l.length)
    (hx : xs = ps.map Prim.val) (hy : ys = qs.map Prim.val) (hp : ps.map Prim.num = l.map (·.2)) (hq : qs.map Prim.num = l.map (·.2)) :
    (Op.equalIn 10000 t (.agg xs.toArray) (.agg ys.toArray)).run P w = .ok (decide (ps = qs)) w ∧ P.eqGuardType P.depth t = false := by
  simp only [fieldsAre, Bool.and_eq_true, Bool.not_eq_true'] at hf
  obtain ⟨⟨⟨⟨f1, f2⟩, f3⟩, f4⟩, _⟩ := hf
  refine ⟨?_, f4⟩
  have hu : P.underlying t = some (.struct (P.fieldsOf t)) := by
    unfold Program.fieldsOf
    cases hd : P.underlying t with
    | none => rw [hd] at f2; simp at f2
    | some d => cases d <;> first | (rw [hd] at f2; simp at f2; done) | rfl
  rw [show (10000 : Nat) = 9998 + 1 + 1 from rfl, run_equalIn_struct w (9998 + 1) t xs.toArray ys.toArray hu f3]
  refine run_eqFields 9998 _ l ps qs (by simpa using f1) h1 h2 fun j x p q b1 b2 b3 => ?_
  have hj : j < l.length := (List.getElem?_eq_some_iff.1 b1).1
  have hx1 : x.1 = j := by
    have : (l.map (·.1))[j]? = some x.1 := by rw [List.getElem?_map, b1]; rfl
    rw [hl, List.getElem?_range hj] at this
    exact (Option.some.inj this).symm
  have n1 : p.num = x.2 := by
    have e1 : (ps.map Prim.num)[j]? = some p.num := by rw [List.getElem?_map, b2]; rfl
    rw [hp, List.getElem?_map, b1] at e1
    exact (Option.some.inj e1).symm
  have n2 : q.num = x.2 := by
    have e1 : (qs.map Prim.num)[j]? = some q.num := by rw [List.getElem?_map, b3]; rfl
    rw [hq, List.getElem?_map, b1] at e1
    exact (Option.some.inj e1).symm
  rw [hx1, hx, hy]
  exact ⟨by simp [b2], by simp [b3], n1, n2⟩
theorem y_eqlSt {t t' : TypeId} {x y : Operand} {xs ys : List Value} (l : List (Nat × Bool)) (ps qs : List Prim) (hf : fieldsAre P t l = true) (hx : ρ.ev x = some (.agg xs.toArray)) (hy : ρ.ev y = some (.agg ys.toArray))
    (e1 : xs = ps.map Prim.val) (e2 : ys = qs.map Prim.val) (hl : l.map (·.1) = List.range l.length) (hp : ps.map Prim.num = l.map (·.2)) (hq : qs.map Prim.num = l.map (·.2)) : Yd fr ds ρ L (.binOp .eql t x y t') ty (.bool (decide (ps = qs))) :=
  binOp_run hx hy fun w => by
    have l1 : ps.length = l.length := by have := congrArg List.length hp; simpa using this
    have l2 : qs.length = l.length := by have := congrArg List.length hq; simpa using this
    obtain ⟨r1, r2⟩ := run_eqSt (w := w) hf l1 l2 hl e1 e2 hp hq
    simp [run_eqGuard_agg w .eql t x y _ _ r2, run_eql_struct, r1]
theorem y_neqSt {t t' : TypeId} {x y : Operand} {xs ys : List Value} (l : List (Nat × Bool)) (ps qs : List Prim) (hf : fieldsAre P t l = true) (hx : ρ.ev x = some (.agg xs.toArray)) (hy : ρ.ev y = some (.agg ys.toArray))
    (e1 : xs = ps.map Prim.val) (e2 : ys = qs.map Prim.val) (hl : l.map (·.1) = List.range l.length) (hp : ps.map Prim.num = l.map (·.2)) (hq : qs.map Prim.num = l.map (·.2)) : Yd fr ds ρ L (.binOp .neq t x y t') ty (.bool (decide (¬ ps = qs))) :=
  binOp_run hx hy fun w => by
    have l1 : ps.length = l.length := by have := congrArg List.length hp; simpa using this
    have l2 : qs.length = l.length := by have := congrArg List.length hq; simpa using this
    obtain ⟨r1, r2⟩ := run_eqSt (w := w) hf l1 l2 hl e1 e2 hp hq
    simp [run_eqGuard_agg w .neq t x y _ _ r2, run_neq_struct, r1]
/-- A whole element (of more cells) of an owned row. -/
theorem y_ldON {t : TypeId} {x : Operand} {it : Ty} {iz ib : Nat} {iv : List Value} {A : Option Addr} {e n c sz : Nat} {q : Nat} {xs vs : List Value} (hx : ρ.ev x = some (.pointer (some ((A.getD default).add ((q : Int).toNat * sz))))) (ht : fr.X.tab[t]? = some (some ⟨it, iz, ib, iv⟩)) (hi : it.agg = true)
    [hm : HasS A e sz n c xs L] (hn : vs.length = iz) (hv : ∀ j v, vs[j]? = some v → xs[q * sz + j]? = some v) : Yd fr ds ρ L (.load t x) ty (.agg vs.toArray) :=
  y_loadN hx ht hi hn fun w hw j v hj => by
    obtain ⟨ad, rfl, hc⟩ := hw.slRd hm.mem _ _ (hv j v hj)
    rw [Option.getD_some, addr_add_add]
    simpa using hc
end
end Go.E

/- Kit E, part 20: & and >>; the begin of a row that is read; many rows, read. -/
set_option linter.unusedVariables false
namespace Go.E
open Go Go.RowKit
section
variable {P : Program} {fr : Fr P} {ds : List Deferred} {ρ : Env} {L : List HP} {k : List It} {ty t t' : TypeId} {x y : Operand}
def iand (kd : IntKind) (m n : Int) : Int := kd.wrap ((BitVec.ofInt kd.bits m) &&& (BitVec.ofInt kd.bits n)).toNat
theorem y_and {kd : IntKind} {m n : Int} (hx : ρ.ev x = some (.int kd m)) (hy : ρ.ev y = some (.int kd n)) : Yd fr ds ρ L (.binOp .and t x y t') ty (.int kd (iand kd m n)) :=
  binOp_run hx hy fun w => by simp [eqGuard, Go.binOp, Op.intBits, iand]
theorem y_shr {kd kd' : IntKind} {m n : Int} (hx : ρ.ev x = some (.int kd m)) (hy : ρ.ev y = some (.int kd' n)) (hn : 0 ≤ n) : Yd fr ds ρ L (.binOp .shr t x y t') ty (.int kd (m.fdiv (2 ^ (min n.toNat kd.bits)))) :=
  binOp_run hx hy fun w => by simp [eqGuard, Go.binOp, Op.shift, show ¬ n < 0 by omega]
theorem KI.take {base : World} {M : Nat → Prop} {A : Option Addr} {xs : List Int} (h : KI base M A xs) (m : Nat) : KI base M A (xs.take m) := KI.pre (ys := xs.drop m) (by rw [List.take_append_drop]; exact h)
theorem KI.nil {w : World} {M : Nat → Prop} : KI w M none [] := fun w hw i hi => absurd hi (Nat.not_lt_zero i)
theorem KE.nil {α : Type} {sz : Nat} {enc : α → List Value} {dd : α} {w : World} {M : Nat → Prop} : KE sz enc dd w M none [] := fun w hw i hi => absurd hi (Nat.not_lt_zero i)
theorem Sat.focus {base : World} {M : Nat → Prop} {w : World} {f : Nat → HP} {n j : Nat} (hj : j < n) (h : Sat base M L w) (hm : bs f n ∈ L) : ∃ R, Sat base M (f j :: R) w := by
  obtain ⟨l1, l2, rfl⟩ := List.append_of_mem hm
  have h2 := (h.perm List.perm_middle).imp (B := star [f j, bx f n j]) fun hp hh => (bs_focus hj hp).1 hh
  exact ⟨_, Sat.group.1 h2⟩
theorem KI.ofBs {base w : World} {M N : Nat → Prop} {f : Nat → HP} {n j e nn c : Nat} {A : Option Addr} {xs : List Int} (hl : ∀ w', Since w N w' → Sat base M L w') (hm : bs f n ∈ L) (hj : j < n) (hf : f j = Sl e 1 A nn c (ints xs)) : KI w N A xs := fun w' h' => by
  obtain ⟨R, h⟩ := (hl w' h').focus hj hm
  rw [hf] at h
  exact h.slRdI List.mem_cons_self
/-! Choices, where the value is looked at without reckoning. -/
theorem s_condT2 {c : Operand} {x y : Code} {v : Value} (hc : ρ.ev c = some v) (hv : v = .bool true) (h : J fr ds ρ L (.code x :: k)) : J fr ds ρ L (.code (.cond c x y) :: k) := s_condT (hv ▸ hc) h
theorem s_condF2 {c : Operand} {x y : Code} {v : Value} (hc : ρ.ev c = some v) (hv : v = .bool false) (h : J fr ds ρ L (.code y :: k)) : J fr ds ρ L (.code (.cond c x y) :: k) := s_condF (hv ▸ hc) h
theorem s_guard2 {all : Array Oper} {rest : List Oper} {dst : Option Tmp} {op : Op} {ty : TypeId} {pos : String} {af : Array Edge} {j t : Nat} {b : Bool} {v : Value} (hj : (all[j]?).bind (·.dst) = some t) (ht : ρ.get t = some v) (hv : v = .bool b)
    (h : J fr ds ρ L (.ops all (⟨dst, op, ty, pos, af, none⟩ :: rest) :: k)) : J fr ds ρ L (.ops all (⟨dst, op, ty, pos, af, some (j, b)⟩ :: rest) :: k) := s_guard hj (hv ▸ ht) h
theorem s_unguard2 {all : Array Oper} {rest : List Oper} {d : Nat} {op : Op} {ty : TypeId} {pos : String} {af : Array Edge} {j t : Nat} {b c : Bool} {v : Value} (hj : (all[j]?).bind (·.dst) = some t) (ht : ρ.get t = some v) (hv : v = .bool b) (hc : (b == c) = false)
    (hd : Nat.ble (d + 1) fr.n = true) (h : J fr ds ((d, undef) :: ρ) L (.ops all rest :: k)) : J fr ds ρ L (.ops all (⟨some d, op, ty, pos, af, some (j, c)⟩ :: rest) :: k) := s_unguard hj (hv ▸ ht) hc hd h
end
end Go.E

/- Kit E, part 21: arrays of the call's own. -/
set_option linter.unusedVariables false
namespace Go.E
open Go Go.RowKit
section
variable {P : Program} {fr : Fr P} {ds : List Deferred} {ρ : Env} {L : List HP} {k : List It} {ty : TypeId} {all : Array Oper} {rest : List Oper} {pos : String} {af : Array Edge}
theorem y_ldA {t : TypeId} {x : Operand} {i : TI} {b T sz : Nat} {q : Int} {l : List Value} {v : Value} (hx : ρ.ev x = some (.pointer (some ((⟨b, 0, none⟩ : Addr).add (q.toNat * sz))))) [hm : HasB b T l L] (ht : fr.X.tab[t]? = some (some i)) (hi : i.ty.agg = false)
    (h1 : Nat.beq sz 1 = true) (hv : l[q.toNat]? = some v) : Yd fr ds ρ L (.load t x) ty v :=
  y_load1 hx ht hi fun w hw => by
    have e : sz = 1 := Nat.eq_of_beq_eq_true h1
    subst e
    rw [addr_add, Nat.zero_add, Nat.mul_one]
    exact hw.cbcell hm.mem hv
theorem s_storeA {t : TypeId} {x y : Operand} {it : Ty} {ib : Nat} {iv : List Value} {b T sz : Nat} {l : List Value} {rem : List HP} {v : Value} {q : Int}
    (hx : ρ.ev x = some (.pointer (some ((⟨b, 0, none⟩ : Addr).add (q.toNat * sz))))) (hy : ρ.ev y = some v) [hm : UpdB b T l L rem]
    (ht : fr.X.tab[t]? = some (some ⟨it, 1, ib, iv⟩)) (h1 : Nat.beq sz 1 = true) (hv : Value.one v = true) (h0 : 0 ≤ q) (hq : q < l.length)
    (h : J fr ds ρ (cb b T (l.set q.toNat v) :: rem) (.ops all rest :: k)) : J fr ds ρ L (.ops all (⟨none, .store t x y, ty, pos, af, none⟩ :: rest) :: k) := by
  have e : sz = 1 := Nat.eq_of_beq_eq_true h1
  subst e
  exact s_store (b := b) (o := q.toNat) (by rw [hx, addr_add, Nat.zero_add, Nat.mul_one]) hy ht hv (by rw [Nat.ble_eq]; omega) h
def bools (bs : List Bool) : List Value := bs.map Value.bool
theorem bools_get {bs : List Bool} {i : Nat} (h : i < bs.length) : (bools bs)[i]? = some (.bool (bs.getD i false)) := by simp [bools, List.getD_eq_getElem?_getD, h]
theorem bools_length (bs : List Bool) : (bools bs).length = bs.length := by simp [bools]
theorem bools_one (bs : List Bool) : (bools bs).all Value.one = true := by
  rw [List.all_eq_true]; intro v hv
  obtain ⟨b, -, rfl⟩ := List.mem_map.1 hv; rfl
/-- A whole block. -/
theorem y_ldW {t : TypeId} {x : Operand} {it : Ty} {iz ib : Nat} {iv : List Value} {b T : Nat} {l : List Value} (hx : ρ.ev x = some (.pointer (some ⟨b, 0, none⟩))) [hm : HasB b T l L] (ht : fr.X.tab[t]? = some (some ⟨it, iz, ib, iv⟩)) (hi : it.agg = true) (hn : l.length = iz) :
    Yd fr ds ρ L (.load t x) ty (.agg l.toArray) :=
  y_loadN hx ht hi hn fun w hw j v hj => by rw [addr_add, Nat.zero_add]; exact hw.cbcell hm.mem hj
theorem bools_set (bs : List Bool) (j : Nat) (v : Bool) : (bools bs).set j (.bool v) = bools (bs.set j v) := by simp [bools, List.map_set]
end
end Go.E

/- Kit E, part 22: arrays built and sliced; functions made; numbers of other kinds. -/
set_option linter.unusedVariables false
namespace Go.E
open Go Go.RowKit
section
variable {P : Program} {fr : Fr P} {ds : List Deferred} {ρ : Env} {L : List HP} {k : List It} {ty : TypeId} {all : Array Oper} {rest : List Oper} {pos : String} {af : Array Edge}
theorem y_buildA {t e : TypeId} {parts : List (Nat × Operand)} {vs : List Value} {n iz ib sz eb : Nat} {iv ev : List Value} {et : Ty} (hx : ρ.evs (parts.map (·.2)) = some vs) (ht : fr.X.tab[t]? = some (some ⟨.ar n e, iz, ib, iv⟩))
    (he : fr.X.tab[e]? = some (some ⟨et, sz, eb, ev⟩)) (hf : ((parts.map (·.1)).zip vs).all (fun p => Nat.beq p.2.cells.size sz && Nat.ble (p.1 * sz + sz) iv.length) = true) :
    Yd fr ds ρ L (.build t parts.toArray) ty (.agg (layS sz ((parts.map (·.1)).zip vs) iv).toArray) :=
  exec_v (fun c e => by cases e) fun a w haa _ _ _ _ _ => by
    obtain ⟨d, inf, z, g1, g2, g3, g4, g5, g6, g7⟩ := TI.of_spec (fr.X.ti ht)
    simp only at g4 g7
    have := Ty.of_ar g4
    subst this
    have hev : (parts.map fun p => (p.1, a.eval p.2)) = (parts.map (·.1)).zip vs := by
      rw [← haa.evs hx]
      simp [List.zip_map', List.map_map, Function.comp_def]
    have hz : (zeroValue t).run P w = .ok z w := by simp [zeroValue, typeInfo, g2, g3]
    have hsz := run_sizeOf (w := w) (fr.X.ti he)
    simp only at hsz
    have hfill := fill_layS sz ((parts.map (·.1)).zip vs) iv fun p hp => by
      rw [List.all_eq_true] at hf
      have := hf p hp
      simp only [Bool.and_eq_true] at this
      exact ⟨Nat.eq_of_beq_eq_true this.1, Nat.le_of_ble_eq_true this.2⟩
    have hzc : z.cells = iv.toArray := by rw [← g7]
    simp [execOp, Instr.build, hz, run_underlying g1, hsz, hev, hzc, hfill]
theorem y_makeFunc {f : FuncId} {xs : List Operand} {vs : List Value} (hx : ρ.evs xs = some vs) : Yd fr ds ρ L (.makeFunc (.func f) #[] xs.toArray) ty (.func (.func f) #[] vs.toArray) :=
  exec_v (fun c e => by cases e) fun a w haa _ _ _ _ _ => by
    have hm : xs.map a.eval = vs := haa.evs hx
    simp [execOp, Instr.makeFunc, hm]
theorem y_convertI {s t : TypeId} {x : Operand} {kd kt : IntKind} {m : Int} {iz ib jz jb : Nat} {iv jv : List Value} (hx : ρ.ev x = some (.int kd m)) (hs : fr.X.tab[s]? = some (some ⟨.int kd, iz, ib, iv⟩)) (ht : fr.X.tab[t]? = some (some ⟨.int kt, jz, jb, jv⟩)) :
    Yd fr ds ρ L (.convert s t x) ty (.int kt (kt.wrap m)) :=
  exec_v (fun c e => by cases e) fun a w haa _ _ _ _ _ => by
    obtain ⟨d, inf, z, g1, g2, g3, g4, g5, g6, g7⟩ := TI.of_spec (fr.X.ti hs)
    obtain ⟨d', inf', z', k1, k2, k3, k4, k5, k6, k7⟩ := TI.of_spec (fr.X.ti ht)
    have := Ty.of_int g4; subst this
    have := Ty.of_int k4; subst this
    simp [execOp, convert, run_underlying g1, run_underlying k1, haa.ev hx, Conv.intToInt]
/-- The begin of an array of the call's own, as a slice. -/
theorem y_sliceA {t e : TypeId} {x : Operand} {hi : Option Operand} {b o n sz m : Nat} {kd : IntKind} {iz ib eb : Nat} {iv ev : List Value} {et : Ty} (hx : ρ.ev x = some (.pointer (some ⟨b, o, none⟩))) (ht : fr.X.tab[t]? = some (some ⟨.ar n e, iz, ib, iv⟩))
    (he : fr.X.tab[e]? = some (some ⟨et, sz, eb, ev⟩)) (hh : (hi = none ∧ m = n) ∨ ∃ y, hi = some y ∧ ρ.ev y = some (.int kd (m : Int))) (hm : Nat.ble m n = true) : Yd fr ds ρ L (.slice t x none hi none) ty (.slice (some ⟨b, o, none⟩) m n) :=
  exec_v (fun c e => by cases e) fun a w haa _ _ _ _ _ => by
    obtain ⟨d, inf, z, g1, g2, g3, g4, g5, g6, g7⟩ := TI.of_spec (fr.X.ti ht)
    have := Ty.of_ar g4; subst this
    have hsz := run_sizeOf (w := w) (fr.X.ti he)
    simp only at hsz
    have hle : m ≤ n := Nat.le_of_ble_eq_true hm
    have ha0 : ∀ b : Addr, b.add 0 = b := fun b => by unfold Addr.add; split <;> simp_all
    rcases hh with ⟨rfl, rfl⟩ | ⟨y, rfl, hy⟩
    · simp [execOp, haa.ev hx, Instr.sliceAt, Instr.sureAddr, run_underlying g1, hsz, Instr.sliceBounds, ha0]
    · have hb : (Instr.sliceBound (.int kd m) n .sliceAlen).run P w = .ok m w := by
        simp [Instr.sliceBound, asIntOf, Sem.run_pure, hle]
      simp [execOp, haa.ev hx, haa.ev hy, Instr.sliceAt, Instr.sureAddr, run_underlying g1, hsz, Instr.sliceBounds, hb, ha0]
/-- The end of an array of the call's own, as a slice. -/
theorem y_sliceAt {t e : TypeId} {x y : Operand} {b o n sz m : Nat} {kd : IntKind} {iz ib eb : Nat} {iv ev : List Value} {et : Ty} (hx : ρ.ev x = some (.pointer (some ⟨b, o, none⟩))) (ht : fr.X.tab[t]? = some (some ⟨.ar n e, iz, ib, iv⟩))
    (he : fr.X.tab[e]? = some (some ⟨et, sz, eb, ev⟩)) (hy : ρ.ev y = some (.int kd (m : Int))) (hm : Nat.ble m n = true) : Yd fr ds ρ L (.slice t x (some y) none none) ty (.slice (some ⟨b, if n = m then o else o + m * sz, none⟩) (n - m) (n - m)) :=
  exec_v (fun c e => by cases e) fun a w haa _ _ _ _ _ => by
    obtain ⟨d, inf, z, g1, g2, g3, g4, g5, g6, g7⟩ := TI.of_spec (fr.X.ti ht)
    have := Ty.of_ar g4; subst this
    have hsz := run_sizeOf (w := w) (fr.X.ti he)
    simp only at hsz
    have hle : m ≤ n := Nat.le_of_ble_eq_true hm
    have hb : (Instr.sliceBound (.int kd m) n .sliceB).run P w = .ok m w := by
      simp [Instr.sliceBound, asIntOf, Sem.run_pure, hle]
    by_cases e : n = m
    · subst e
      simp [execOp, haa.ev hx, haa.ev hy, Instr.sliceAt, Instr.sureAddr, run_underlying g1, hsz, Instr.sliceBounds, hb]
    · simp [execOp, haa.ev hx, haa.ev hy, Instr.sliceAt, Instr.sureAddr, run_underlying g1, hsz, Instr.sliceBounds, hb, e, addr_add]
/-- Numbers that lie in a block of the call's own, from a place on. -/
theorem kiOfCO {base w : World} {M N : Nat → Prop} {L : List HP} {T b o : Nat} {l : List Value} {xs : List Int} (hl : ∀ w', Since w N w' → Sat base M L w') (hm : cb b T l ∈ L) (hx : (l.drop o).take xs.length = ints xs) : KI w N (some ⟨b, o, none⟩) xs := fun w' h' i hi => by
  have h1 : ((l.drop o).take xs.length)[i]? = some (.int .i64 (xs.getD i 0)) := by rw [hx]; exact ints_get hi
  have := (hl w' h').cbcell hm (o := o + i) (take_get h1)
  exact ⟨_, rfl, by rw [addr_add]; exact this⟩
end
end Go.E

/- Kit E, part 23: == and != of arrays of two numbers. -/
set_option linter.unusedVariables false
namespace Go.E
open Go Go.RowKit
section
variable {P : Program} {fr : Fr P} {ds : List Deferred} {ρ : Env} {L : List HP} {k : List It} {ty : TypeId}
theorem run_eqA2 {t e : TypeId} {a b c d : Int} {i j : TI} {w : World} (ht : TI.of P t = some i) (hi : i.ty = .ar 2 e) (he : TI.of P e = some j) (hj : j.ty = .int .i64) (hc : P.cellsOf e = 1) :
    (Op.equalIn 10000 t (.agg #[.int .i64 a, .int .i64 b]) (.agg #[.int .i64 c, .int .i64 d])).run P w = .ok (decide (a = c ∧ b = d)) w := by
  obtain ⟨dd, inf, z, g1, g2, g3, g4, g5, g6, g7⟩ := TI.of_spec ht
  rw [hi] at g4
  have := Ty.of_ar g4; subst this
  obtain ⟨dd', inf', z', k1, k2, k3, k4, k5, k6, k7⟩ := TI.of_spec he
  rw [hj] at k4
  have := Ty.of_int k4; subst this
  have hk : fkind P e = some true := by simp [fkind, k1]
  have part1 : ∀ (cs : Array Value) (o : Nat) (v : Value), cs[o]? = some v → (part e cs o).run P w = .ok v w := fun cs o v h => run_part1 hk h
  have q1 : ∀ x y : Int, (Op.equalIn 9999 e (.int .i64 x) (.int .i64 y)).run P w = .ok (x == y) w := fun x y => run_equalIn_int w 9998 e .i64 .i64 x y k1
  have h0 : (Op.equalIn 10000 t (.agg #[.int .i64 a, .int .i64 b]) (.agg #[.int .i64 c, .int .i64 d])).run P w = (Op.eqItems 9999 e 1 #[.int .i64 a, .int .i64 b] #[.int .i64 c, .int .i64 d] [0, 1]).run P w := by
    have := run_equalIn_array w 9999 #[.int .i64 a, .int .i64 b] #[.int .i64 c, .int .i64 d] g1 k2
    rw [hc] at this
    exact this
  rw [h0]
  have p1 := part1 #[.int .i64 a, .int .i64 b] 0 _ rfl
  have p2 := part1 #[.int .i64 c, .int .i64 d] 0 _ rfl
  have p3 := part1 #[.int .i64 a, .int .i64 b] 1 _ rfl
  have p4 := part1 #[.int .i64 c, .int .i64 d] 1 _ rfl
  by_cases h1 : a = c
  · subst h1
    by_cases h2 : b = d
    · subst h2; simp [Op.eqItems, p1, p3, q1]
    · simp [Op.eqItems, p1, p2, p3, p4, q1, h2]
  · simp [Op.eqItems, p1, p2, q1, h1]
theorem y_neqA2 {t t' e : TypeId} {x y : Operand} {a b c d : Int} {i j : TI} (hx : ρ.ev x = some (.agg #[.int .i64 a, .int .i64 b])) (hy : ρ.ev y = some (.agg #[.int .i64 c, .int .i64 d])) (ht : fr.X.tab[t]? = some (some i)) (hi : i.ty = .ar 2 e) (he : fr.X.tab[e]? = some (some j)) (hj : j.ty = .int .i64)
    (hc : P.cellsOf e = 1) (hg : P.eqGuardType P.depth t = false) : Yd fr ds ρ L (.binOp .neq t x y t') ty (.bool (decide (¬ (a = c ∧ b = d)))) :=
  binOp_run hx hy fun w => by
    have r1 := run_eqA2 (w := w) (a := a) (b := b) (c := c) (d := d) (fr.X.ti ht) hi (fr.X.ti he) hj hc
    simp [run_eqGuard_agg w .neq t x y _ _ hg, run_neq_struct, r1]
end
end Go.E
