/- The proof kit 'E', part 6: a range over a function: the yield, the rounds, the statement; a function's end behind such loops; calls of function values. -/
import Derived.Test.YtgpebcfeeagoaaaE5
namespace Go.E
open Go Go.RowKit
/-! ### Groups of items -/
theorem star_star {K R : List HP} {h : Hp} : star (star K :: R) h ↔ star (K ++ R) h := star_append.symm
theorem Sat.group {base : World} {M : Nat → Prop} {K R : List HP} {w : World} : Sat base M (star K :: R) w ↔ Sat base M (K ++ R) w :=
  ⟨fun h => ⟨let ⟨k, s, i, f⟩ := h.hp; ⟨k, star_star.1 s, i, f⟩, h.since⟩, fun h => ⟨let ⟨k, s, i, f⟩ := h.hp; ⟨k, star_star.2 s, i, f⟩, h.since⟩⟩
theorem Owns.group {w : World} {K : List HP} {N : Nat → Prop} : Owns w [star K] N ↔ Owns w K N :=
  ⟨fun ⟨h, s, i, f⟩ => ⟨h, star_one.1 s, i, f⟩, fun ⟨h, s, i, f⟩ => ⟨h, star_one.2 s, i, f⟩⟩
theorem Owns.perm {w : World} {K K' : List HP} {N : Nat → Prop} (p : K.Perm K') (h : Owns w K N) : Owns w K' N := let ⟨k, s, i, f⟩ := h; ⟨k, star_perm p _ s, i, f⟩
section
variable {P : Program} {fr : Fr P} {ds : List Deferred} {ρ : Env} {L : List HP} {k : List It} {all : Array Oper} {rest : List Oper}
/-! ### Function values -/
theorem run_dynamic {a : Act} {w : World} {f : FuncId} {g : Operand} {xs : List Operand} {ts : Array TypeId} {vs caps : List Value} {o : Oper} (ho : o.op = .call ⟨.value g, xs.toArray, ts⟩) (hg : a.eval g = .func (.func f) #[] caps.toArray)
    (hx : xs.map a.eval = vs) (hf : callable P f = true) : (execOp a.eval o).run P w = .ok (.enter f (vs ++ caps).toArray) w := by
  unfold execOp
  rw [ho]
  have hm : (xs.toArray.map a.eval) = vs.toArray := by rw [List.map_toArray, hx]
  simp only [resolve, hg, Deferred.ofValue, Sem.run_bind, Sem.run_pure, Result.andThen_ok, invoke, hm]
  have := run_callFunc (args := (vs ++ caps).toArray) (w := w) hf
  simpa using this
/-- A call of a function value. -/
theorem s_callV {d : Nat} {f : FuncId} {g : Operand} {xs : List Operand} {ts : Array TypeId} {ty : TypeId} {pos : String} {af : Array Edge} {vs caps : List Value} {pre rem : List HP} {R : Value → List HP → Prop}
    (hg : ρ.ev g = some (.func (.func f) #[] caps.toArray)) (hx : ρ.evs xs = some vs) (hf : fr.X.has f = true) (hL : L.Perm (pre ++ rem))
    (hc : ∀ w N, Owns w pre N → (∀ w', Since w N w' → Sat fr.base fr.M rem w') → Ret P f (vs ++ caps) w N R) (hd : Nat.ble (d + 1) fr.n = true)
    (h : ∀ v L', R v L' → J fr ds ((d, v) :: ρ) (L' ++ rem) (.ops all rest :: k)) :
    J fr ds ρ L (.ops all (⟨some d, .call ⟨.value g, xs.toArray, ts⟩, ty, pos, af, none⟩ :: rest) :: k) := by
  refine s_op rfl (fun c e => by cases e) fun a w ha hw => ?_
  rw [run_dynamic rfl (ha.ev hg) (ha.evs hx) (fr.X.call hf)]
  have hw' := hw.perm hL
  obtain ⟨N, ho, hframe, hl⟩ := hw'.framed
  refine uponIn_call (hc w N ho hl) fun v L' w' hR hS => ?_
  exact h v L' hR _ w' (ha.put hd v) (hframe L' w' hS)
/-! ### yield -/
/-- What a round comes to. -/
def RetY (P : Program) (l : Nat) (args : List Value) (w : World) (M : Nat → Prop) (R : Value → List HP → Prop) : Prop :=
  ∃ f tmps assign body, (Instr.yield l args.toArray).run P w = .ok (.round l f tmps assign body) w ∧ RoundIn Fence.wide 0 P l f tmps assign body w fun e w' => ∃ v L', e = .returned v ∧ R v L' ∧ Sat w M L' w'
theorem s_callY {d l : Nat} {g : Operand} {xs : List Operand} {ts : Array TypeId} {ty : TypeId} {pos : String} {af : Array Edge} {vs : List Value} {pre rem : List HP} {R : Value → List HP → Prop}
    (hg : ρ.ev g = some (.func (.yield l) #[] #[])) (hx : ρ.evs xs = some vs) (hL : L.Perm (pre ++ rem)) (hr : fr.r = none)
    (hc : ∀ w N, Owns w pre N → (∀ w', Since w N w' → Sat fr.base fr.M rem w') → RetY P l vs w N R) (hd : Nat.ble (d + 1) fr.n = true)
    (h : ∀ v L', R v L' → J fr ds ((d, v) :: ρ) (L' ++ rem) (.ops all rest :: k)) :
    J fr ds ρ L (.ops all (⟨some d, .call ⟨.value g, xs.toArray, ts⟩, ty, pos, af, none⟩ :: rest) :: k) := by
  refine s_op rfl (fun c e => by cases e) fun a w ha hw => ?_
  have hw' := hw.perm hL
  obtain ⟨N, ho, hframe, hl⟩ := hw'.framed
  obtain ⟨f, tmps, assign, body, hy, hround⟩ := hc w N ho hl
  have hm : (xs.toArray.map a.eval) = vs.toArray := by rw [List.map_toArray, ha.evs hx]
  have hrun : (execOp a.eval ⟨some d, .call ⟨.value g, xs.toArray, ts⟩, ty, pos, af, none⟩).run P w = .ok (.round l f tmps assign body) w := by
    simp only [execOp, resolve, ha.ev hg, Deferred.ofValue, Sem.run_bind, Sem.run_pure, Result.andThen_ok, invoke, hm]
    simpa using hy
  rw [hrun, Oper.uponIn_round]
  refine ⟨fun x => absurd x (by simp [FW, Fence.wide]), ?_⟩
  have hFW : FW fr.r = Fence.wide := by rw [hr]; rfl
  rw [← hFW] at hround
  refine RoundIn.mono (n := 0 - 1) hround ?_
  rintro e w' ⟨v, L', rfl, hR, hS⟩
  exact h v L' hR _ w' (ha.put hd v) (hframe L' w' hS)
end
/-! ### The loop's record -/
theorem run_getLoop {P : Program} {w : World} {l : Nat} {R : Loop} (h : w.heap[l]? = some (.loop R)) : (Instr.getLoop l).run P w = .ok R w := by
  simp [Instr.getLoop, getObj, Sem.run, h]
theorem run_setLoop {P : Program} {w : World} {l : Nat} {R : Loop} (R' : Loop) (h : w.heap[l]? = some (.loop R)) : (setObj l (.loop R')).run P w = .ok () { w with heap := w.heap.setIfInBounds l (.loop R') } := by
  simp [setObj, Sem.run, h]
theorem Sat.setObj {base : World} {M : Nat → Prop} {L : List HP} {b : Nat} {o : Obj} {w : World} (h : Sat base M (pt b o :: L) w) (o' : Obj) : Sat base M (pt b o' :: L) { w with heap := w.heap.setIfInBounds b o' } := by
  have hb := (Array.getElem?_eq_some_iff.1 h.at).1
  refine h.turn ?_ (fun k hk => ?_) (by simp) rfl rfl rfl
  · simp [hb]
  · exact Array.getElem?_setIfInBounds_ne (Ne.symm hk)
def lp (l : Nat) (R : Loop) : HP := pt l (.loop R)
def Loop.st (R : Loop) (s : LoopState) (p : Option Code) : Loop := { R with state := s, pending := p }
/-- Between two rounds; behind a round that has left. -/
def LI' (l : Nat) (R : Loop) (LI : Nat → List HP) (k : Nat) : HP := star (lp l (Loop.st R .ready none) :: LI k)
def LS' {τ : Type} (l : Nat) (R : Loop) (LS : τ → Code × List HP) : HP := fun h => ∃ t, star (lp l (Loop.st R .done (some (LS t).1)) :: (LS t).2) h
/-- What a round's yield tells. -/
def RY {τ : Type} (l : Nat) (R : Loop) (LI : Nat → List HP) (LS : τ → Code × List HP) (k : Nat) (v : Value) (L' : List HP) : Prop :=
  (v = .bool true ∧ L' = [LI' l R LI (k + 1)]) ∨ (v = .bool false ∧ L' = [LS' l R LS])
def QY {τ : Type} (P : Program) (w : World) (N : Nat → Prop) (l : Nat) (R : Loop) (LI : Nat → List HP) (LS : τ → Code × List HP) (k : Nat) : Exit → Act → World → Prop :=
  roundPost P l fun e w' => ∃ v L', e = .returned v ∧ RY l R LI LS k v L' ∧ Sat w N L' w'
section
variable {P : Program} {ds : List Deferred} {ρ : Env} {L : List HP} {X : Cx P} {w0 : World} {N : Nat → Prop} {n l : Nat} {R : Loop} {τ : Type} {LI : Nat → List HP} {LS : τ → Code × List HP} {kk : Nat} {s : LoopState} {p : Option Code}
theorem run_endRound {w : World} {R : Loop} (h : w.heap[l]? = some (.loop R)) (j : Option Code) : (Instr.endRound l j).run P w = .ok (.bool j.isNone) { w with heap := w.heap.setIfInBounds l (.loop (Loop.st R (if j.isNone then .ready else .done) j)) } := by
  simp only [Instr.endRound, Sem.run_bind, run_getLoop h, Result.andThen_ok, run_setLoop _ h, Sem.run_pure, Loop.st]
theorem s_roundEnd {junk : List HP} (hL : L.Perm (lp l (Loop.st R .busy none) :: (LI (kk + 1) ++ junk))) : J ⟨X, some l, w0, N, n, QY P w0 N l R LI LS kk⟩ ds ρ L [] := by
  intro a w ha hw
  have hw' := hw.perm hL
  refine ⟨_, _, run_endRound hw'.at none, .bool true, [LI' l R LI (kk + 1)], rfl, .inl ⟨rfl, rfl⟩, ?_⟩
  have := hw'.setObj (.loop (Loop.st (Loop.st R .busy none) .ready none))
  have h2 : Sat w0 N ((lp l (Loop.st R .ready none) :: LI (kk + 1)) ++ junk) _ := this
  exact (Sat.group (R := [])).2 (by rw [List.append_nil]; exact h2.left)
theorem roundLeft {base : World} {M : Nat → Prop} {junk : List HP} {w : World} (t : τ) {c : Code} (ht : c = (LS t).1) (h : Sat base M (pt l (.loop (Loop.st (Loop.st R s p) .done (some c))) :: ((LS t).2 ++ junk)) w) : Sat base M [LS' l R LS] w := by
  subst ht
  have h2 : Sat base M ((lp l (Loop.st R .done (some (LS t).1)) :: (LS t).2) ++ junk) w := h
  have h3 := (Sat.group (R := [])).2 (show Sat base M ((lp l (Loop.st R .done (some (LS t).1)) :: (LS t).2) ++ []) w by rw [List.append_nil]; exact h2.left)
  exact h3.imp fun k hk => ⟨t, hk⟩
theorem s_roundOut {junk : List HP} {id : Nat} {k : List It} (t : τ) (e : It.to id k = none) (ht : (LS t).1 = .exit id) (hL : L.Perm (lp l (Loop.st R .busy none) :: ((LS t).2 ++ junk))) : J ⟨X, some l, w0, N, n, QY P w0 N l R LI LS kk⟩ ds ρ L (.code (.exit id) :: k) := by
  refine s_out e fun a w ha hw => ?_
  have hw' := hw.perm hL
  refine ⟨_, _, run_endRound hw'.at (some (.exit id)), .bool false, [LS' l R LS], rfl, .inr ⟨rfl, rfl⟩, ?_⟩
  have := hw'.setObj (.loop (Loop.st (Loop.st R .busy none) .done (some (.exit id))))
  exact roundLeft t ht.symm this
theorem s_roundRet {junk : List HP} {k : List It} (t : τ) (ht : (LS t).1 = .ret) (hL : L.Perm (lp l (Loop.st R .busy none) :: ((LS t).2 ++ junk))) : J ⟨X, some l, w0, N, n, QY P w0 N l R LI LS kk⟩ ds ρ L (.code .ret :: k) := by
  refine s_ret fun a w ha hw => ?_
  have hw' := hw.perm hL
  refine ⟨_, _, run_endRound hw'.at (some .ret), .bool false, [LS' l R LS], rfl, .inr ⟨rfl, rfl⟩, ?_⟩
  have := hw'.setObj (.loop (Loop.st (Loop.st R .busy none) .done (some .ret)))
  exact roundLeft t ht.symm this
/-- The body begins. -/
def BK (P : Program) (l : Nat) (body : Code) (Q : Exit → Act → World → Prop) (a : Act) (w : World) : Prop := ∃ w₂, (Instr.beginRound l).run P w = .ok () w₂ ∧ body.wpIn (FW (some l)) 0 P Q a w₂
theorem s_begin {Q : Exit → Act → World → Prop} {M : Nat → Prop} {body : Code} {rem : List HP} {Q' : Exit → Act → World → Prop} (hL : L.Perm (lp l (Loop.st R .ready p) :: rem)) (h : J ⟨X, some l, w0, M, n, Q⟩ ds ρ (lp l (Loop.st R .busy p) :: rem) [.code body]) :
    J ⟨X, some l, w0, M, n, Q'⟩ ds ρ L [.then_ (BK P l body Q)] := by
  intro a w ha hw
  have hw' := hw.perm hL
  refine ⟨{ w with heap := w.heap.setIfInBounds l (.loop (Loop.st R .busy p)) }, ?_, ?_⟩
  · have hg := run_getLoop (P := P) hw'.at
    simp only [Instr.beginRound, Sem.run_bind, hg, Result.andThen_ok, run_setLoop _ hw'.at, Loop.st, Sem.run_pure]
  · have := h a { w with heap := w.heap.setIfInBounds l (.loop (Loop.st R .busy p)) } ha (hw'.setObj _)
    exact this
/-- The slots of a round. -/
def setps : List Tmp → List Value → Env → Env
  | t :: ts, v :: vs, ρ => setps ts vs ((t, v) :: ρ)
  | _, _, ρ => ρ
theorem Env.ok.setps {n : Nat} {ds : List Deferred} : ∀ {ts : List Tmp} {vs : List Value} {ρ : Env} {tmps : Array Value}, Env.ok n ds ρ ⟨tmps, ds⟩ → ts.all (fun t => Nat.ble (t + 1) n) = true →
    Env.ok n ds (setps ts vs ρ) ⟨(ts.zip vs).foldl (fun tmps x => tmps.setIfInBounds x.1 x.2) tmps, ds⟩
  | [], _, ρ, tmps, h, _ => by unfold Go.E.setps; exact h
  | t :: ts, [], ρ, tmps, h, _ => by unfold Go.E.setps; simpa using h
  | t :: ts, v :: vs, ρ, tmps, h, ht => by
    simp only [List.all_cons, Bool.and_eq_true] at ht
    unfold Go.E.setps
    simp only [List.zip_cons_cons, List.foldl_cons]
    exact Env.ok.setps (h.put ht.1 v) ht.2
end
/-- The mark of a loop that was ranged over. -/
def mk (D : Nat) : Deferred := { target := .collected D, args := #[] }
def dm (D : Nat) : HP := pt D (.deferred (some []))
section
variable {P : Program} {fr : Fr P} {ds : List Deferred} {ρ : Env} {L : List HP} {k : List It}
theorem run_endLoop {l : Nat} {w : World} {R : Loop} (h : w.heap[l]? = some (.loop R)) (hb : R.state ≠ .busy) : (Instr.endLoop l).run P w = .ok R.pending { w with heap := w.heap.setIfInBounds l (.loop { R with state := .exhausted }) } := by
  simp [Instr.endLoop, run_getLoop h, run_setLoop _ h, hb]
theorem s_range {τ : Type} {g : Operand} {ps : List Tmp} {assign body : Code} {f : FuncId} {caps : List Value} {rem : List HP} (hr : fr.r = none) (hg : ρ.ev g = some (.func (.func f) #[] caps.toArray)) (hf : fr.X.has f = true)
    (LI : Nat → List HP) (LS : τ → Code × List HP) (av : Nat → List Value) (dom fin : Nat → Prop) (hL : L.Perm (LI 0 ++ rem)) (hav : ∀ k, (av k).length = ps.length) (hps : ps.all (fun t => Nat.ble (t + 1) fr.n) = true)
    (hiter : ∀ l R w0 N0, Owns w0 [LI' l R LI 0] N0 → (∀ w', Since w0 N0 w' → Sat fr.base fr.M rem w') →
      (∀ k w N, dom k → Owns w [LI' l R LI k] N → (∀ w', Since w N w' → Since w0 N0 w') → RetY P l (av k) w N (RY l R LI LS k)) →
      Ret P f (.func (.yield l) #[] #[] :: caps) w0 N0 fun _ L' => (∃ k, fin k ∧ L' = [LI' l R LI k]) ∨ L' = [LS' l R LS])
    (hassign : ∀ l R w N k, dom k → (∀ w', Since w N w' → Sat fr.base fr.M rem w') → J ⟨fr.X, some l, w, N, fr.n, fun _ _ _ => False⟩ [] (setps ps (av k) ρ) (lp l (Loop.st R .ready none) :: LI k) [.code assign, .then_ (BK P l body (QY P w N l R LI LS k))])
    (hdone : ∀ D k', fin k' → J fr (mk D :: ds) ρ (dm D :: (LI k' ++ rem)) k)
    (hleft : ∀ D t, J fr (mk D :: ds) ρ (dm D :: ((LS t).2 ++ rem)) (.code (LS t).1 :: k)) :
    J fr ds ρ L (.code (.rangeFunc g ps.toArray assign body) :: k) := by
  intro a w ha hw
  have hFW : FW fr.r = Fence.wide := by rw [hr]; rfl
  show (Code.rangeFunc g ps.toArray assign body).wpIn (FW fr.r) 0 P (post fr k) a w
  refine wpIn_rangeFunc fun fn _ => ?_
  let D := w.heap.size
  let l := w.heap.size + 1
  let R : Loop := { state := .ready, pending := none, fn := fn, tmps := a.tmps, params := ps.toArray, assign := assign, body := body, defers := D }
  let w1 := (w.alloc (.deferred (some []))).alloc (.loop R)
  have hw1 : Sat fr.base fr.M (lp l (Loop.st R .ready none) :: dm D :: L) w1 := by
    have h1 := hw.alloc (.deferred (some []))
    have h2 := h1.alloc (.loop R)
    have hsz : (w.alloc (.deferred (some []))).heap.size = l := by simp [l]
    rw [hsz] at h2
    exact h2
  refine ⟨l, [mk D], w1, ⟨.fn (.func f) caps.toArray, #[.func (.yield l) #[] #[]]⟩, w1, f, (.func (.yield l) #[] #[] :: caps).toArray, w1, ?_, ?_, fun _ _ => trivial, ?_, fun x => absurd x (by simp [FW, Fence.wide]), ?_⟩
  · have hro : (FW fr.r).round = none := hr
    rw [hro]
    simp [Instr.enterLoop, w1, l, D, R, mk]
  · simp only [resolve, ha.ev hg, Deferred.ofValue]
    simp [Act.eval]
  · have := run_callFunc (args := (Value.func (.yield l) #[] #[] :: caps).toArray) (w := w1) (fr.X.call hf)
    simpa [invoke] using this
  · -- the call
    have hw2 : Sat fr.base fr.M ([LI' l R LI 0] ++ (dm D :: rem)) w1 := by
      have hp : (lp l (Loop.st R .ready none) :: dm D :: L).Perm ((lp l (Loop.st R .ready none) :: LI 0) ++ (dm D :: rem)) := by
        refine List.Perm.cons _ ?_
        exact (List.Perm.cons _ hL).trans (List.perm_middle.symm)
      exact Sat.group.2 (hw1.perm hp)
    obtain ⟨N0, ho, hframe, hl0⟩ := hw2.framed
    have hl : ∀ w', Since w1 N0 w' → Sat fr.base fr.M rem w' := fun w' h' => by
      have := hl0 w' h'
      exact (this.perm (List.perm_append_comm (l₁ := [dm D]) (l₂ := rem))).left
    have hcall := hiter l R w1 N0 ho hl (fun k' wr N hk hown hsn => by
      refine ⟨fn, (ps.zip (av k')).foldl (fun tmps x => tmps.setIfInBounds x.1 x.2) a.tmps, assign, body, ?_, ?_⟩
      · -- yield finds the record
        have hat : wr.heap[l]? = some (.loop (Loop.st R .ready none)) := (Owns.sat hown |> Sat.group.1 |>.at)
        have hlen : (av k').toArray.size = (Loop.st R .ready none).params.size := by simp [Loop.st, R, hav k']
        simp only [Instr.yield, Sem.run_bind, run_getLoop hat, Result.andThen_ok]
        rw [if_neg (by rw [hlen]; simp)]
        simp [Loop.st, R]
      · refine roundIn_of_wpIn (F := Fence.wide) trivial ?_
        have hsat : Sat wr N (lp l (Loop.st R .ready none) :: LI k') wr := by
          have := Sat.group.1 (Owns.sat hown)
          simpa using this
        have hJ := hassign l R wr N k' hk (fun w' h' => hl w' (hsn w' h')) ⟨(ps.zip (av k')).foldl (fun tmps x => tmps.setIfInBounds x.1 x.2) a.tmps, []⟩ wr (Env.ok.setps (ds := []) ⟨ha.size, rfl, ha.get⟩ hps) hsat
        change assign.wpIn (FW (some l)) 0 P _ _ wr at hJ
        refine wpIn_mono hJ fun e a1 w1' hq => ?_
        cases e with
        | normal => exact hq
        | _ => exact hq.elim)
    have key : Ret P f (.func (.yield l) #[] #[] :: caps) w1 N0 fun _ L' => (∃ k, fin k ∧ L' = [LI' l R LI k]) ∨ L' = [LS' l R LS] := hcall
    have key2 : CallsIn Fence.wide (0 - 1) P f (.func (.yield l) #[] #[] :: caps).toArray w1 (rangePost (FW fr.r) 0 P l (post fr k) { a with defers := [mk D] ++ a.defers }) := by
      refine (callsIn_wide (n := 0 - 1)).2 (Calls.mono key ?_)
      rintro e w' ⟨v, L', rfl, hR, hS⟩
      have ha' : Env.ok fr.n (mk D :: ds) ρ { a with defers := [mk D] ++ a.defers } := ⟨ha.size, by simp [ha.defers], ha.get⟩
      rcases hR with ⟨k', hk', rfl⟩ | rfl
      · have h3 := hframe _ _ hS
        have h4 : Sat fr.base fr.M (lp l (Loop.st R .ready none) :: (LI k' ++ (dm D :: rem))) w' := Sat.group.1 h3
        refine ⟨none, _, run_endLoop h4.at (by simp [Loop.st]), ?_⟩
        have h5 := h4.setObj (.loop { Loop.st R .ready none with state := .exhausted })
        refine hdone D k' hk' _ _ ha' ?_
        have h6 := (h5.perm (List.perm_append_comm (l₁ := [pt l (.loop { Loop.st R .ready none with state := .exhausted })]) (l₂ := LI k' ++ (dm D :: rem)))).left
        exact h6.perm List.perm_middle
      · have h3 := hframe _ _ hS
        obtain ⟨hp, ⟨h1, h2, ⟨t, ht⟩, s2, d2, rfl⟩, hin, hle⟩ := h3.hp
        have h4 : Sat fr.base fr.M (lp l (Loop.st R .done (some (LS t).1)) :: ((LS t).2 ++ (dm D :: rem))) w' :=
          Sat.group.1 ⟨⟨_, ⟨h1, h2, ht, s2, d2, rfl⟩, hin, hle⟩, h3.since⟩
        refine ⟨some (LS t).1, _, run_endLoop h4.at (by simp [Loop.st]), ?_⟩
        have h5 := h4.setObj (.loop { Loop.st R .done (some (LS t).1) with state := .exhausted })
        have h6 := (h5.perm (List.perm_append_comm (l₁ := [pt l (.loop { Loop.st R .done (some (LS t).1) with state := .exhausted })]) (l₂ := (LS t).2 ++ (dm D :: rem)))).left
        exact hleft D t _ _ ha' (h6.perm List.perm_middle)
    rw [hFW] at key2 ⊢
    exact key2

/-! ### A function's end behind such loops -/
def dms (Ds : List Nat) : HP := star (Ds.map dm)
theorem dms_cons {D : Nat} {Ds : List Nat} {R : List HP} {base : World} {M : Nat → Prop} {w : World} (h : Sat base M (dm D :: dms Ds :: R) w) : Sat base M (dms (D :: Ds) :: R) w := by
  have h1 := (Sat.group (K := [dm D] ++ Ds.map dm) (R := R)).2 (by
    have := Sat.group.1 (h.perm (List.Perm.swap _ _ _))
    exact this.perm List.perm_middle)
  exact h1
theorem J.marks {D : Nat} {Ds : List Nat} {R : List HP} (h : J fr ds ρ (dms (D :: Ds) :: R) k) : J fr ds ρ (dm D :: dms Ds :: R) k := fun a w ha hw => h a w ha (dms_cons hw)
theorem run_take {D : Nat} {w : World} (h : w.heap[D]? = some (.deferred (some []))) : (Instr.takeDeferred D).run P w = .ok [] { w with heap := w.heap.setIfInBounds D (.deferred none) } := by
  simp [Instr.takeDeferred, getObj, setObj, Sem.run, h]
theorem leavesM {base : World} {M : Nat → Prop} {fn : Func} {tmps : Array Value} {R : Ending → World → Prop} {K : List HP} : ∀ (Ds : List Nat) (w : World), Sat base M (Ds.map dm ++ K) w →
    (∀ w', Sat base M K w' → ∃ v, (results fn tmps).run P w' = .ok v w' ∧ R (.returned v) w') → LeavesInM Fence.wide 0 P fn tmps R (Ds.map mk) .returning w
  | [], w, h, hf => hf w h
  | D :: Ds, w, h, hf => by
    have h1 : Sat base M (pt D (.deferred (some [])) :: (Ds.map dm ++ K)) w := h
    refine ⟨by simp, .inl ⟨D, _, rfl, run_take h1.at, ?_⟩⟩
    have h2 := (h1.setObj (.deferred none)).perm (List.perm_append_comm (l₁ := [pt D (.deferred none)]) (l₂ := Ds.map dm ++ K))
    exact leavesM Ds _ h2.left hf
theorem s_returnM {X : Cx P} {base : World} {M : Nat → Prop} {n : Nat} {fn : Func} {R : Value → List HP → Prop} {v : Value} {Ds : List Nat} {K L' junk : List HP} (hR : R v L') (hds : ds = Ds.map mk) [hD : Pl (dms Ds) L K] [hL : Tk L' K junk]
    (hv : Res ⟨X, none, base, M, n, bodyPostM (FW none) 0 P fn fun e w' => ∃ v L', e = .returned v ∧ R v L' ∧ Sat base M L' w'⟩ ds ρ K fn v) :
    J ⟨X, none, base, M, n, bodyPostM (FW none) 0 P fn fun e w' => ∃ v L', e = .returned v ∧ R v L' ∧ Sat base M L' w'⟩ ds ρ L (.code .ret :: k) := by
  refine s_ret fun a w ha hw => ?_
  show LeavesInM Fence.wide 0 P fn a.tmps _ a.defers .returning w
  rw [ha.defers, hds]
  exact leavesM Ds w (Sat.group.1 (hw.perm hD.perm)) fun w' hw' => ⟨v, hv a w' ha hw', v, L', rfl, hR, (hw'.perm hL.perm).left⟩
theorem s_return1 {X : Cx P} {base : World} {M : Nat → Prop} {n : Nat} {fn : Func} {R : Value → List HP → Prop} {v : Value} {D : Nat} {K L' junk : List HP} (hR : R v L') [hD : Pl (dm D) L K] [hL : Tk L' K junk]
    (hv : Res ⟨X, none, base, M, n, bodyPostM (FW none) 0 P fn fun e w' => ∃ v L', e = .returned v ∧ R v L' ∧ Sat base M L' w'⟩ [mk D] ρ K fn v) :
    J ⟨X, none, base, M, n, bodyPostM (FW none) 0 P fn fun e w' => ∃ v L', e = .returned v ∧ R v L' ∧ Sat base M L' w'⟩ [mk D] ρ L (.code .ret :: k) := by
  refine s_ret fun a w ha hw => ?_
  show LeavesInM Fence.wide 0 P fn a.tmps _ a.defers .returning w
  rw [ha.defers]
  exact leavesM [D] w (hw.perm hD.perm) fun w' hw' => ⟨v, hv a w' ha hw', v, L', rfl, hR, (hw'.perm hL.perm).left⟩
theorem s_end1 {X : Cx P} {base : World} {M : Nat → Prop} {n : Nat} {fn : Func} {R : Value → List HP → Prop} {v : Value} {D : Nat} {K L' junk : List HP} (hR : R v L') [hD : Pl (dm D) L K] [hL : Tk L' K junk]
    (hv : Res ⟨X, none, base, M, n, bodyPostM (FW none) 0 P fn fun e w' => ∃ v L', e = .returned v ∧ R v L' ∧ Sat base M L' w'⟩ [mk D] ρ K fn v) :
    J ⟨X, none, base, M, n, bodyPostM (FW none) 0 P fn fun e w' => ∃ v L', e = .returned v ∧ R v L' ∧ Sat base M L' w'⟩ [mk D] ρ L [] := by
  intro a w ha hw
  show LeavesInM Fence.wide 0 P fn a.tmps _ a.defers .returning w
  rw [ha.defers]
  exact leavesM [D] w (hw.perm hD.perm) fun w' hw' => ⟨v, hv a w' ha hw', v, L', rfl, hR, (hw'.perm hL.perm).left⟩
/-! ### Loops whose rounds leave marks -/
def HeadD {σ : Type} (fr : Fr P) (dsI : σ → List Deferred) (ρI : σ → Env) (LI : σ → List HP) (φ : σ → Prop) (μ : σ → Nat) (m : Nat) (a : Act) (w : World) : Prop :=
  ∃ s, φ s ∧ μ s < m ∧ Env.ok fr.n (dsI s) (ρI s) a ∧ Sat fr.base fr.M (LI s) w
theorem s_loopD {σ : Type} {c : Code} (dsI : σ → List Deferred) (ρI : σ → Env) (LI : σ → List HP) (φ : σ → Prop) (μ : σ → Nat) (s0 : σ) {junk : List HP} (hd : ds = dsI s0) (hρ : Env.sub (ρI s0) ρ) (hL : L.Perm (LI s0 ++ junk)) (h0 : φ s0)
    (round : ∀ s, φ s → J fr (dsI s) (ρI s) (LI s) (.code c :: .inv (HeadD fr dsI ρI LI φ μ (μ s)) :: k)) : J fr ds ρ L (.code (.loop c) :: k) := by
  intro a w ha hw
  subst hd
  refine wpIn_loop_ghost (fun s a w => φ s ∧ Env.ok fr.n (dsI s) (ρI s) a ∧ Sat fr.base fr.M (LI s) w) μ s0 ⟨h0, ha.sub hρ, (hw.perm hL).left⟩ ?_
  rintro s a w ⟨hs, ha, hw⟩
  refine wpIn_mono (round s hs a w ha hw) ?_
  rintro e a w hq
  cases e with
  | normal => obtain ⟨s', h1, h2, h3, h4⟩ := hq; exact ⟨s', ⟨h1, h3, h4⟩, h2⟩
  | _ => exact hq
theorem s_invD {σ : Type} {dsI : σ → List Deferred} {ρI : σ → Env} {LI : σ → List HP} {φ : σ → Prop} {μ : σ → Nat} {m : Nat} (s : σ) {junk : List HP} (hs : φ s) (hμ : μ s < m) (hd : ds = dsI s) (hρ : Env.sub (ρI s) ρ) (hL : L.Perm (LI s ++ junk)) :
    J fr ds ρ L (.inv (HeadD fr dsI ρI LI φ μ m) :: k) := fun _ _ ha hw => by subst hd; exact ⟨s, hs, hμ, ha.sub hρ, (hw.perm hL).left⟩
/-! ### What is true without memory -/
def pu (p : Prop) : HP := fun h => p ∧ h = Hp.emp
theorem J.pu {p : Prop} (h : p → J fr ds ρ L k) : J fr ds ρ (Go.E.pu p :: L) k := by
  intro a w ha hw
  obtain ⟨hp, ⟨h1, h2, ⟨hpp, rfl⟩, s2, _, rfl⟩, hin, hle⟩ := hw.hp
  exact h hpp a w ha ⟨⟨h2, s2, hin, hle⟩, hw.since⟩
theorem J.puI {p : Prop} (hp : p) (h : J fr ds ρ (Go.E.pu p :: L) k) : J fr ds ρ L k := fun a w ha hw => h a w ha (hw.emp ⟨hp, rfl⟩)
/-- What an item tells. -/
theorem J.fact {A : HP} {p : Prop} (f : ∀ h, A h → p) (h : p → J fr ds ρ (A :: L) k) : J fr ds ρ (A :: L) k := by
  intro a w ha hw
  obtain ⟨hp, ⟨h1, h2, ha1, _⟩, _⟩ := hw.hp
  exact h (f h1 ha1) a w ha hw
theorem J.perm {L' : List HP} (p : L.Perm L') (h : J fr ds ρ L' k) : J fr ds ρ L k := fun a w ha hw => h a w ha (hw.perm p)
theorem J.group {K R : List HP} : J fr ds ρ (star K :: R) k ↔ J fr ds ρ (K ++ R) k := ⟨fun h a w ha hw => h a w ha (Sat.group.2 hw), fun h a w ha hw => h a w ha (Sat.group.1 hw)⟩
theorem J.env {σ : Env} (s : Env.sub σ ρ) (h : J fr ds σ L k) : J fr ds ρ L k := fun a w ha hw => h a w (ha.sub s) hw
theorem star_pu2 {A : HP} {p : Prop} {R : List HP} {h : Hp} (s : star (A :: pu p :: R) h) : p := by
  obtain ⟨_, _, _, ⟨_, _, ⟨hp, _⟩, _⟩, _⟩ := s
  exact hp
theorem res_none {fn : Func} (h : fn.results = #[]) : Res fr ds ρ L fn (.tuple #[]) := fun a w _ _ => by rw [results_none h]
/-- A result that lies in a cell. -/
theorem res_cell {fn : Func} {t T T' b : Nat} {v : Value} {i : TI} {l : List Value} (h : fn.results = #[.cell t T]) (ht : ρ.get t = some (.pointer (some ⟨b, 0, none⟩))) [hm : HasB b T' l L] (hT : fr.X.tab[T]? = some (some i)) (hi : i.ty.agg = false) (hv : l[0]? = some v) : Res fr ds ρ L fn v := fun a w ha hw => by
  have hg := ha.get t _ ht
  rw [Array.getD_eq_getD_getElem?] at hg
  have h1 := run_isAgg (w := w) (fr.X.ti hT)
  have hc : w.cell? ⟨b, 0, none⟩ = some v := hw.cbcell hm.mem hv
  simp [results, h, hg, asAddr, loadVar, h1, hi, load, Sem.run, hc]
theorem res_cellN {fn : Func} {t T T' b : Nat} {i : TI} {l : List Value} (h : fn.results = #[.cell t T]) (ht : ρ.get t = some (.pointer (some ⟨b, 0, none⟩))) [hm : HasB b T' l L] (hT : fr.X.tab[T]? = some (some i)) (hi : i.ty.agg = true) (hn : l.length = i.size) : Res fr ds ρ L fn (.agg l.toArray) := fun a w ha hw => by
  have hg := ha.get t _ ht
  rw [Array.getD_eq_getD_getElem?] at hg
  have h1 := run_isAgg (w := w) (fr.X.ti hT)
  have h2 := run_sizeOf (w := w) (fr.X.ti hT)
  have h3 := loadCells_at (P := P) (w := w) (ad := ⟨b, 0, none⟩) (vs := l) (fun j v hj => by rw [addr_add, Nat.zero_add]; exact hw.cbcell hm.mem hj)
  rw [hn] at h3
  simp [results, h, hg, asAddr, loadVar, h1, h2, hi, h3]
theorem res_cellN2 {fn : Func} {t u T T' b : Nat} {i : TI} {l : List Value} {v' : Value} (h : fn.results = #[.cell t T, .tmp u]) (ht : ρ.get t = some (.pointer (some ⟨b, 0, none⟩))) (hu : ρ.get u = some v') [hm : HasB b T' l L] (hT : fr.X.tab[T]? = some (some i)) (hi : i.ty.agg = true) (hn : l.length = i.size) : Res fr ds ρ L fn (.tuple #[.agg l.toArray, v']) := fun a w ha hw => by
  have hg := ha.get t _ ht
  have hg' := ha.get u _ hu
  rw [Array.getD_eq_getD_getElem?] at hg hg'
  have h1 := run_isAgg (w := w) (fr.X.ti hT)
  have h2 := run_sizeOf (w := w) (fr.X.ti hT)
  have h3 := loadCells_at (P := P) (w := w) (ad := ⟨b, 0, none⟩) (vs := l) (fun j v hj => by rw [addr_add, Nat.zero_add]; exact hw.cbcell hm.mem hj)
  rw [hn] at h3
  simp [results, h, hg, hg', asAddr, loadVar, h1, h2, hi, h3]
end
end Go.E
