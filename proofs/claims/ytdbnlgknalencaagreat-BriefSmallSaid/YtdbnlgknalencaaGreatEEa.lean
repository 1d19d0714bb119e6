/- The proof kit E, in parts. -/
import Derived.RangeFuncLeaves
import Derived.OrdersIn
import Derived.TacticsIn
import Derived.Below
import Derived.Laws.AppendOwn
import Derived.Scope
import Derived.IntWalk
import Derived.Laws.NewBlocks
import Derived.Maps.AppendAt
import Derived.Laws.MakeOwn
/- The proof kit 'E', part 1: parts of a heap, what a world holds, the judgement 'J' over a list of code still to be done. No program in sight. -/
namespace Go.E
open Go Go.RowKit

/-! ### Parts of a heap -/
abbrev Hp := Nat → Option Obj
def Hp.emp : Hp := fun _ => none
def Hp.one (b : Nat) (o : Obj) : Hp := fun x => if x = b then some o else none
def Hp.add (h k : Hp) : Hp := fun x => match h x with | some o => some o | none => k x
def Hp.Disj (h k : Hp) : Prop := ∀ x, h x = none ∨ k x = none
abbrev HP := Hp → Prop
def pt (b : Nat) (o : Obj) : HP := fun h => h = Hp.one b o
def star : List HP → HP
  | [] => fun h => h = Hp.emp
  | A :: L => fun h => ∃ h1 h2, A h1 ∧ star L h2 ∧ Hp.Disj h1 h2 ∧ h = h1.add h2

theorem Hp.Disj.symm {h k : Hp} (d : Hp.Disj h k) : Hp.Disj k h := fun x => (d x).symm
theorem Hp.add_comm {h k : Hp} (d : Hp.Disj h k) : h.add k = k.add h := by
  funext x
  rcases d x with e | e <;> simp only [Hp.add, e] <;> (first | (cases k x <;> rfl) | (cases h x <;> rfl))
theorem Hp.add_assoc (h k l : Hp) : (h.add k).add l = h.add (k.add l) := by
  funext x
  simp only [Hp.add]
  cases h x <;> rfl
theorem Hp.disj_add {h k l : Hp} : Hp.Disj h (k.add l) ↔ Hp.Disj h k ∧ Hp.Disj h l := by
  constructor
  · intro d
    constructor
    · intro x
      rcases d x with e | e
      · exact .inl e
      · right
        simp only [Hp.add] at e
        cases hk : k x with
        | none => rfl
        | some o => rw [hk] at e; simp at e
    · intro x
      rcases d x with e | e
      · exact .inl e
      · right
        simp only [Hp.add] at e
        cases hk : k x with
        | none => rw [hk] at e; simpa using e
        | some o => rw [hk] at e; simp at e
  · rintro ⟨d1, d2⟩ x
    rcases d1 x with e | e
    · exact .inl e
    · rcases d2 x with f | f
      · exact .inl f
      · right; simp [Hp.add, e, f]
theorem Hp.add_disj {h k l : Hp} : Hp.Disj (h.add k) l ↔ Hp.Disj h l ∧ Hp.Disj k l :=
  ⟨fun d => let ⟨a, b⟩ := Hp.disj_add.1 d.symm; ⟨a.symm, b.symm⟩, fun ⟨a, b⟩ => (Hp.disj_add.2 ⟨a.symm, b.symm⟩).symm⟩
theorem Hp.emp_disj (h : Hp) : Hp.Disj Hp.emp h := fun _ => .inl rfl
theorem Hp.emp_add (h : Hp) : Hp.emp.add h = h := rfl
theorem Hp.add_emp (h : Hp) : h.add Hp.emp = h := by funext x; simp only [Hp.add, Hp.emp]; cases h x <;> rfl
theorem Hp.add_some {h k : Hp} {x : Nat} {o : Obj} (e : (h.add k) x = some o) : h x = some o ∨ (h x = none ∧ k x = some o) := by
  simp only [Hp.add] at e
  cases hx : h x with
  | none => rw [hx] at e; exact .inr ⟨rfl, e⟩
  | some p => rw [hx] at e; exact .inl e
theorem Hp.add_left {h k : Hp} {x : Nat} {o : Obj} (e : h x = some o) : (h.add k) x = some o := by simp [Hp.add, e]
theorem Hp.add_right {h k : Hp} (d : Hp.Disj h k) {x : Nat} {o : Obj} (e : k x = some o) : (h.add k) x = some o := by
  rcases d x with f | f
  · simp [Hp.add, f, e]
  · rw [f] at e; cases e
theorem Hp.add_none {h k : Hp} {x : Nat} : (h.add k) x = none ↔ h x = none ∧ k x = none := by
  simp only [Hp.add]
  cases h x <;> simp

theorem star_swap {A B : HP} {L : List HP} {h : Hp} (s : star (A :: B :: L) h) : star (B :: A :: L) h := by
  obtain ⟨h1, h23, a, ⟨h2, h3, b, l, d23, rfl⟩, d1, rfl⟩ := s
  obtain ⟨d12, d13⟩ := Hp.disj_add.1 d1
  refine ⟨h2, h1.add h3, b, ⟨h1, h3, a, l, d13, rfl⟩, Hp.disj_add.2 ⟨d12.symm, d23⟩, ?_⟩
  rw [← Hp.add_assoc, Hp.add_comm d12, Hp.add_assoc]
theorem star_cons {A : HP} {L L' : List HP} (f : ∀ h, star L h → star L' h) {h : Hp} (s : star (A :: L) h) : star (A :: L') h :=
  let ⟨h1, h2, a, l, d, e⟩ := s; ⟨h1, h2, a, f _ l, d, e⟩
theorem star_perm {L L' : List HP} (p : L.Perm L') : ∀ h, star L h → star L' h := by
  induction p with
  | nil => exact fun _ s => s
  | cons _ _ ih => exact fun _ s => star_cons ih s
  | swap _ _ _ => exact fun _ s => star_swap s
  | trans _ _ ih1 ih2 => exact fun h s => ih2 h (ih1 h s)
theorem star_append {L K : List HP} {h : Hp} : star (L ++ K) h ↔ ∃ h1 h2, star L h1 ∧ star K h2 ∧ Hp.Disj h1 h2 ∧ h = h1.add h2 := by
  induction L generalizing h with
  | nil =>
    constructor
    · intro s; exact ⟨Hp.emp, h, rfl, s, Hp.emp_disj _, rfl⟩
    · rintro ⟨h1, h2, rfl, s, _, rfl⟩; exact s
  | cons A L ih =>
    constructor
    · rintro ⟨h1, h2, a, s, d, rfl⟩
      obtain ⟨k1, k2, l, m, d', rfl⟩ := ih.1 s
      obtain ⟨d1, d2⟩ := Hp.disj_add.1 d
      exact ⟨h1.add k1, k2, ⟨h1, k1, a, l, d1, rfl⟩, m, Hp.add_disj.2 ⟨d2, d'⟩, (Hp.add_assoc _ _ _).symm⟩
    · rintro ⟨h12, h2, ⟨h1, k1, a, l, d1, rfl⟩, m, d, rfl⟩
      obtain ⟨e1, e2⟩ := Hp.add_disj.1 d
      exact ⟨h1, k1.add h2, a, ih.2 ⟨k1, h2, l, m, e2, rfl⟩, Hp.disj_add.2 ⟨d1, e1⟩, Hp.add_assoc _ _ _⟩

/-! ### What a world holds -/
/-- Since 'base' nothing has turned but new blocks and the blocks of 'M'. -/
structure Since (base : World) (M : Nat → Prop) (w : World) : Prop where
  os : w.os = base.os
  tape : w.tape = base.tape
  output : w.output = base.output
  size : base.heap.size ≤ w.heap.size
  block : ∀ b, b < base.heap.size → ¬ M b → w.heap[b]? = base.heap[b]?
def Hp.In (h : Hp) (w : World) : Prop := ∀ b o, h b = some o → w.heap[b]? = some o
structure Sat (base : World) (M : Nat → Prop) (L : List HP) (w : World) : Prop where
  hp : ∃ h, star L h ∧ h.In w ∧ ∀ b o, h b = some o → base.heap.size ≤ b ∨ M b
  since : Since base M w
def noM : Nat → Prop := fun _ => False
theorem Since.refl (w : World) (M : Nat → Prop) : Since w M w := ⟨rfl, rfl, rfl, Nat.le_refl _, fun _ _ _ => rfl⟩
theorem Since.below {base w : World} (h : Since base noM w) : Below base.heap.size base w := ⟨h.os, h.tape, h.output, h.size, fun k hk => h.block k hk id⟩
theorem Sat.perm {base : World} {M : Nat → Prop} {L L' : List HP} {w : World} (p : L.Perm L') (h : Sat base M L w) : Sat base M L' w :=
  ⟨let ⟨k, s, i, f⟩ := h.hp; ⟨k, star_perm p _ s, i, f⟩, h.since⟩
theorem Sat.left {base : World} {M : Nat → Prop} {L K : List HP} {w : World} (h : Sat base M (L ++ K) w) : Sat base M L w := by
  obtain ⟨k, s, i, f⟩ := h.hp
  obtain ⟨h1, h2, s1, _, _, rfl⟩ := star_append.1 s
  exact ⟨⟨h1, s1, fun b o e => i b o (Hp.add_left e), fun b o e => f b o (Hp.add_left e)⟩, h.since⟩
theorem Hp.emp_no {b : Nat} {o : Obj} (e : Hp.emp b = some o) : False := by cases e
theorem Hp.emp_in (w : World) : Hp.emp.In w := fun _ _ e => (Hp.emp_no e).elim
theorem Sat.start (w : World) (M : Nat → Prop) : Sat w M [] w := ⟨⟨Hp.emp, rfl, Hp.emp_in w, fun _ _ e => (Hp.emp_no e).elim⟩, Since.refl _ _⟩
/-- What a call is handed to own. -/
def Owns (w : World) (pre : List HP) (M : Nat → Prop) : Prop := ∃ h : Hp, star pre h ∧ h.In w ∧ ∀ b, M b ↔ h b ≠ none
theorem Owns.nil (w : World) : Owns w [] noM := ⟨Hp.emp, rfl, Hp.emp_in w, fun _ => ⟨fun h => h.elim, fun h => h rfl⟩⟩
theorem Owns.sat {w : World} {pre : List HP} {M : Nat → Prop} (h : Owns w pre M) : Sat w M pre w :=
  let ⟨k, s, i, f⟩ := h; ⟨⟨k, s, i, fun b o e => .inr ((f b).2 (by rw [e]; simp))⟩, Since.refl _ _⟩

/-- The frame: what a call did not own stays. -/
theorem Since.trans {a b c : World} {M N : Nat → Prop} (h : Since a M b) (h' : Since b N c) (hN : ∀ x, x < a.heap.size → N x → M x) : Since a M c :=
  ⟨h'.os.trans h.os, h'.tape.trans h.tape, h'.output.trans h.output, Nat.le_trans h.size h'.size, fun x hx hm =>
    (h'.block x (Nat.lt_of_lt_of_le hx h.size) (fun hn => hm (hN x hx hn))).trans (h.block x hx hm)⟩
/-- The frame: what a call did not own stays: all the while (the last part), and behind it. -/
theorem Sat.framed {base : World} {M : Nat → Prop} {pre R : List HP} {w : World} (h : Sat base M (pre ++ R) w) :
    ∃ N, Owns w pre N ∧ (∀ L' w', Sat w N L' w' → Sat base M (L' ++ R) w') ∧ ∀ w', Since w N w' → Sat base M R w' := by
  obtain ⟨k, s, i, f⟩ := h.hp
  obtain ⟨h1, h2, s1, s2, d, rfl⟩ := star_append.1 s
  have lt2 : ∀ b o, h2 b = some o → b < w.heap.size ∧ h1 b = none := fun b o e => by
    have := i b o (Hp.add_right d e)
    refine ⟨(Array.getElem?_eq_some_iff.1 this).1, ?_⟩
    rcases d b with x | x
    · exact x
    · rw [x] at e; cases e
  have hsince : ∀ w', Since w (fun b => h1 b ≠ none) w' → Since base M w' := fun w' h' => h.since.trans h' fun x hx hn => by
    cases e1 : h1 x with
    | none => exact absurd e1 hn
    | some o1 => rcases f x o1 (Hp.add_left e1) with y | y
                 · omega
                 · exact y
  have hkeep : ∀ w', Since w (fun b => h1 b ≠ none) w' → ∀ b o, h2 b = some o → w'.heap[b]? = some o := fun w' h' b o e => by
    obtain ⟨l, n⟩ := lt2 b o e
    rw [h'.block b l (fun hn => hn n)]
    exact i b o (Hp.add_right d e)
  refine ⟨fun b => h1 b ≠ none, ⟨h1, s1, fun b o e => i b o (Hp.add_left e), fun b => Iff.rfl⟩, fun L' w' h' => ?_, fun w' h' => ⟨⟨h2, s2, hkeep w' h', fun b o e => f b o (Hp.add_right d e)⟩, hsince w' h'⟩⟩
  obtain ⟨k', s', i', f'⟩ := h'.hp
  have dd : Hp.Disj k' h2 := fun b => by
    cases e2 : h2 b with
    | none => exact .inr rfl
    | some o =>
      left
      cases ek : k' b with
      | none => rfl
      | some o' =>
        obtain ⟨l, n⟩ := lt2 b o e2
        rcases f' b o' ek with x | x
        · omega
        · exact absurd n x
  refine ⟨⟨k'.add h2, star_append.2 ⟨k', h2, s', s2, dd, rfl⟩, fun b o e => ?_, fun b o e => ?_⟩, hsince w' h'.since⟩
  · rcases Hp.add_some e with x | ⟨_, x⟩
    · exact i' b o x
    · exact hkeep w' h'.since b o x
  · rcases Hp.add_some e with x | ⟨_, x⟩
    · rcases f' b o x with y | y
      · left; have := h.since.size; omega
      · cases e1 : h1 b with
        | none => exact absurd e1 y
        | some o1 => exact f b o1 (Hp.add_left e1)
    · exact f b o (Hp.add_right d x)

/-- A world that differs in new blocks at its end alone, and draws: all stays. -/
theorem Sat.heap {base : World} {M : Nat → Prop} {L : List HP} {w w' : World} (h : Sat base M L w) (e : w'.heap = w.heap) (eo : w'.os = w.os) (et : w'.tape = w.tape) (ep : w'.output = w.output) : Sat base M L w' :=
  ⟨let ⟨k, s, i, f⟩ := h.hp; ⟨k, s, fun b o x => by rw [e]; exact i b o x, f⟩,
   ⟨eo.trans h.since.os, et.trans h.since.tape, ep.trans h.since.output, by rw [e]; exact h.since.size, fun b hb hm => by rw [e]; exact h.since.block b hb hm⟩⟩
theorem Sat.drew {base : World} {M : Nat → Prop} {L : List HP} {w : World} (h : Sat base M L w) : Sat base M L w.drew := h.heap rfl rfl rfl rfl
/-- A new block. -/
theorem Sat.alloc {base : World} {M : Nat → Prop} {L : List HP} {w : World} (h : Sat base M L w) (o : Obj) : Sat base M (pt w.heap.size o :: L) (w.alloc o) := by
  obtain ⟨k, s, i, f⟩ := h.hp
  have hn : k w.heap.size = none := by
    cases e : k w.heap.size with
    | none => rfl
    | some o' => have := (Array.getElem?_eq_some_iff.1 (i _ _ e)).1; omega
  have d : Hp.Disj (Hp.one w.heap.size o) k := fun b => by
    by_cases e : b = w.heap.size
    · right; rw [e]; exact hn
    · left; simp [Hp.one, e]
  refine ⟨⟨(Hp.one w.heap.size o).add k, ⟨_, k, rfl, s, d, rfl⟩, fun b o' e => ?_, fun b o' e => ?_⟩, ?_⟩
  · rcases Hp.add_some e with x | ⟨_, x⟩
    · simp only [Hp.one] at x
      split at x
      · rename_i hb; cases x; rw [hb]; exact Array.getElem?_push_size
      · cases x
    · have hl := (Array.getElem?_eq_some_iff.1 (i _ _ x)).1
      rw [Below.heap_alloc w o b hl]; exact i b o' x
  · rcases Hp.add_some e with x | ⟨_, x⟩
    · simp only [Hp.one] at x
      split at x
      · rename_i hb; left; rw [hb]; exact h.since.size
      · cases x
    · exact f b o' x
  · exact ⟨h.since.os, h.since.tape, h.since.output, by simp; have := h.since.size; omega, fun b hb hm => by
      rw [Below.heap_alloc w o b (Nat.lt_of_lt_of_le hb h.since.size)]; exact h.since.block b hb hm⟩
/-- A block that is owned, as it lies. -/
theorem Sat.at {base : World} {M : Nat → Prop} {L : List HP} {b : Nat} {o : Obj} {w : World} (h : Sat base M (pt b o :: L) w) : w.heap[b]? = some o := by
  obtain ⟨k, ⟨h1, h2, rfl, _, d, rfl⟩, i, _⟩ := h.hp
  exact i b o (Hp.add_left (by simp [Hp.one]))
/-- A block that is owned is turned. -/
theorem Sat.turn {base : World} {M : Nat → Prop} {L : List HP} {b : Nat} {o o' : Obj} {w w' : World} (h : Sat base M (pt b o :: L) w)
    (hb : w'.heap[b]? = some o') (hr : ∀ k, k ≠ b → w'.heap[k]? = w.heap[k]?) (hs : w'.heap.size = w.heap.size) (eo : w'.os = w.os) (et : w'.tape = w.tape) (ep : w'.output = w.output) :
    Sat base M (pt b o' :: L) w' := by
  obtain ⟨k, ⟨h1, h2, rfl, s, d, rfl⟩, i, f⟩ := h.hp
  have d' : Hp.Disj (Hp.one b o') h2 := fun x => by
    rcases d x with e | e
    · left
      simp only [Hp.one] at e ⊢
      split at e
      · cases e
      · rename_i hx; simp [hx]
    · exact .inr e
  refine ⟨⟨(Hp.one b o').add h2, ⟨_, h2, rfl, s, d', rfl⟩, fun x u e => ?_, fun x u e => ?_⟩, ?_⟩
  · rcases Hp.add_some e with y | ⟨y0, y⟩
    · simp only [Hp.one] at y
      split at y
      · rename_i hx; cases y; rw [hx]; exact hb
      · cases y
    · have hx : x ≠ b := by intro hx; simp [Hp.one, hx] at y0
      rw [hr x hx]; exact i x u (Hp.add_right d y)
  · rcases Hp.add_some e with y | ⟨_, y⟩
    · simp only [Hp.one] at y
      split at y
      · rename_i hx; rw [hx]; exact f b o (Hp.add_left (by simp [Hp.one]))
      · cases y
    · exact f x u (Hp.add_right d y)
  · refine ⟨eo.trans h.since.os, et.trans h.since.tape, ep.trans h.since.output, by rw [hs]; exact h.since.size, fun x hx hm => ?_⟩
    have hxb : x ≠ b := by
      intro e
      rcases f b o (Hp.add_left (by simp [Hp.one])) with y | y
      · omega
      · rw [e] at hm; exact hm y
    rw [hr x hxb]; exact h.since.block x hx hm

end Go.E

/- The proof kit 'E', part 2: what is known of the slots; types; the judgement 'J'; control; a function's beginning and end; calls. -/
namespace Go.E
open Go Go.RowKit

/-! ### The slots -/
abbrev Env := List (Nat × Value)
def Env.get : Env → Nat → Option Value
  | [], _ => none
  | (k, v) :: r, t => bif Nat.beq k t then some v else Env.get r t
def Env.ev (ρ : Env) : Operand → Option Value
  | .tmp t => ρ.get t
  | .const v => some v
  | .global g => some (.pointer (some ⟨g, 0, none⟩))
  | .func f => some (.func (.func f) #[] #[])
def Env.evs (ρ : Env) : List Operand → Option (List Value)
  | [] => some []
  | x :: r => match ρ.ev x, Env.evs ρ r with | some v, some vs => some (v :: vs) | _, _ => none
structure Env.ok (n : Nat) (ds : List Deferred) (ρ : Env) (a : Act) : Prop where
  size : a.tmps.size = n
  defers : a.defers = ds
  get : ∀ t v, ρ.get t = some v → a.tmps.getD t undef = v
theorem Env.ok.ev {n : Nat} {ds : List Deferred} {ρ : Env} {a : Act} (h : Env.ok n ds ρ a) {x : Operand} {v : Value} (e : ρ.ev x = some v) : a.eval x = v := by
  cases x with
  | tmp t => exact h.get t v e
  | const u => exact Option.some.inj e
  | global g => exact Option.some.inj e
  | func f => exact Option.some.inj e
theorem Env.ok.evs {n : Nat} {ds : List Deferred} {ρ : Env} {a : Act} (h : Env.ok n ds ρ a) : ∀ {xs : List Operand} {vs : List Value}, ρ.evs xs = some vs → xs.map a.eval = vs
  | [], _, e => by cases e; rfl
  | x :: xs, vs, e => by
    simp only [Env.evs] at e
    cases hx : ρ.ev x with
    | none => rw [hx] at e; cases e
    | some v =>
      cases hr : ρ.evs xs with
      | none => rw [hx, hr] at e; cases e
      | some us => rw [hx, hr] at e; cases e; rw [List.map_cons, h.ev hx, h.evs hr]
theorem Env.ok.put {n : Nat} {ds : List Deferred} {ρ : Env} {a : Act} (h : Env.ok n ds ρ a) {d : Nat} (hd : Nat.ble (d + 1) n = true) (v : Value) : Env.ok n ds ((d, v) :: ρ) (a.put (some d) v) := by
  have hlt : d < n := Nat.le_of_ble_eq_true hd
  refine ⟨by simp [Act.put, h.size], h.defers, fun t u e => ?_⟩
  simp only [Env.get] at e
  simp only [Act.put]
  cases hb : Nat.beq d t with
  | true =>
    rw [hb] at e
    have hdt : d = t := Nat.eq_of_beq_eq_true hb
    cases e
    subst hdt
    simp [Array.getD_eq_getD_getElem?, h.size, hlt]
  | false =>
    rw [hb] at e
    have hne : d ≠ t := fun x => by rw [x] at hb; rw [show Nat.beq t t = true from Nat.beq_refl t] at hb; cases hb
    have := h.get t u e
    rw [← this]
    simp [Array.getD_eq_getD_getElem?, hne]
theorem Env.ok.skip {n : Nat} {ds : List Deferred} {ρ : Env} {a : Act} (h : Env.ok n ds ρ a) (v : Value) : Env.ok n ds ρ (a.put none v) := h
/-- 'σ' tells no more than 'ρ'. -/
def Env.sub : Env → Env → Prop
  | [], _ => True
  | (t, v) :: σ, ρ => ρ.get t = some v ∧ Env.sub σ ρ
theorem Env.sub_get {σ ρ : Env} (h : Env.sub σ ρ) {t : Nat} {v : Value} (e : σ.get t = some v) : ρ.get t = some v := by
  induction σ with
  | nil => cases e
  | cons p σ ih =>
    obtain ⟨k, u⟩ := p
    simp only [Env.get] at e
    cases hb : Nat.beq k t with
    | true => rw [hb] at e; cases e; rw [← Nat.eq_of_beq_eq_true hb]; exact h.1
    | false => rw [hb] at e; exact ih h.2 e
theorem Env.ok.sub {n : Nat} {ds : List Deferred} {ρ σ : Env} {a : Act} (h : Env.ok n ds ρ a) (s : Env.sub σ ρ) : Env.ok n ds σ a :=
  ⟨h.size, h.defers, fun t v e => h.get t v (Env.sub_get s e)⟩
def Env.ofArgs (k : Nat) : List Value → Env
  | [] => []
  | v :: vs => (k, v) :: Env.ofArgs (k + 1) vs
theorem Env.ofArgs_get : ∀ (vs : List Value) (k t : Nat) (v : Value), (Env.ofArgs k vs).get t = some v → k ≤ t ∧ vs[t - k]? = some v
  | [], _, _, _, e => by cases e
  | u :: vs, k, t, v, e => by
    simp only [Env.ofArgs, Env.get] at e
    cases hb : Nat.beq k t with
    | true => rw [hb] at e; cases e; have := Nat.eq_of_beq_eq_true hb; subst this; simp
    | false =>
      rw [hb] at e
      obtain ⟨h1, h2⟩ := Env.ofArgs_get vs (k + 1) t v e
      refine ⟨by omega, ?_⟩
      rw [show t - k = (t - (k + 1)) + 1 from by omega]
      simpa using h2

/-! ### Types -/
inductive Ty where
  | bool | int (k : IntKind) | str | st (fs : List (Nat × TypeId)) | ar (n : Nat) (e : TypeId) | sl (e : TypeId) | mp (k e : TypeId) | pr (e : TypeId) | ifc | fn | other
def Ty.of : TypeDesc → Ty
  | .bool => .bool
  | .int k => .int k
  | .string => .str
  | .struct fs => .st (fs.toList.map fun f => (f.offset, f.type))
  | .array n e => .ar n e
  | .slice e => .sl e
  | .map k e => .mp k e
  | .pointer e => .pr e
  | .interface _ => .ifc
  | .func _ _ _ => .fn
  | _ => .other
def Ty.agg : Ty → Bool
  | .st _ => true
  | .ar _ _ => true
  | _ => false
structure TI where
  ty : Ty
  size : Nat
  bytes : Nat
  zero : List Value
def isAggV : Value → Bool
  | .agg _ => true
  | _ => false
def TI.of (P : Program) (t : TypeId) : Option TI :=
  match P.info? t, P.underlying t with
  | some i, some d => match i.zero with | some z => bif (isAggV z == (Ty.of d).agg) then some ⟨Ty.of d, i.size, i.bytes, z.cells.toList⟩ else none | none => none
  | _, _ => none
def callable (P : Program) (f : FuncId) : Bool :=
  match P.funcs[f]? with
  | some fn => fn.name != "runtime.NumGoroutine" && fn.body.isSome
  | none => false
/-- What is asked of the program once a seat. -/
structure Cx (P : Program) where
  mix : P.follows .mixedOrders = true
  tab : List (Option TI)
  htab : (List.range tab.length).map (TI.of P) = tab
  lo : Nat
  calls : Nat
  hcalls : (List.range' lo calls).all (callable P) = true
theorem Cx.ti {P : Program} (X : Cx P) {t : TypeId} {i : TI} (h : X.tab[t]? = some (some i)) : TI.of P t = some i := by
  rw [← X.htab] at h
  simp only [List.getElem?_map, Option.map_eq_some_iff] at h
  obtain ⟨a, h1, h2⟩ := h
  have : a = t := by
    have := List.getElem?_eq_some_iff.1 h1
    obtain ⟨hl, he⟩ := this
    simpa using he.symm
  rw [← this]; exact h2
theorem TI.of_spec' {P : Program} {t : TypeId} {i : TI} (h : TI.of P t = some i) :
    ∃ d inf z, P.underlying t = some d ∧ P.info? t = some inf ∧ inf.zero = some z ∧ Ty.of d = i.ty ∧ inf.size = i.size ∧ inf.bytes = i.bytes ∧ z.cells.toList = i.zero ∧ isAggV z = i.ty.agg := by
  unfold TI.of at h
  cases hi : P.info? t with
  | none => rw [hi] at h; cases h
  | some inf =>
    cases hd : P.underlying t with
    | none => rw [hi, hd] at h; cases h
    | some d =>
      rw [hi, hd] at h
      simp only at h
      cases hz : inf.zero with
      | none => rw [hz] at h; cases h
      | some z =>
        rw [hz] at h
        simp only at h
        cases ha : (isAggV z == (Ty.of d).agg) with
        | false => rw [ha] at h; cases h
        | true => rw [ha] at h; cases h; exact ⟨d, inf, z, rfl, rfl, hz, rfl, rfl, rfl, rfl, by simpa using ha⟩
theorem TI.of_spec {P : Program} {t : TypeId} {i : TI} (h : TI.of P t = some i) :
    ∃ d inf z, P.underlying t = some d ∧ P.info? t = some inf ∧ inf.zero = some z ∧ Ty.of d = i.ty ∧ inf.size = i.size ∧ inf.bytes = i.bytes ∧ z.cells.toList = i.zero := by
  obtain ⟨d, inf, z, a, b, c, d', e, f, g, _⟩ := TI.of_spec' h
  exact ⟨d, inf, z, a, b, c, d', e, f, g⟩
def Cx.has {P : Program} (X : Cx P) (f : FuncId) : Bool := Nat.ble X.lo f && Nat.blt f (X.lo + X.calls)
theorem Cx.call {P : Program} (X : Cx P) {f : FuncId} (h : X.has f = true) : callable P f = true := by
  have := X.hcalls
  rw [List.all_eq_true] at this
  simp only [Cx.has, Bool.and_eq_true, Nat.blt_eq] at h
  exact this f (List.mem_range'_1.2 ⟨Nat.le_of_ble_eq_true h.1, h.2⟩)

/-! ### Items pulled out of the list -/
class Pl (A : HP) (L : List HP) (R : outParam (List HP)) : Prop where
  perm : L.Perm (A :: R)
instance (A : HP) (L : List HP) : Pl A (A :: L) L := ⟨List.Perm.refl _⟩
instance (priority := low) (A B : HP) (L R : List HP) [h : Pl A L R] : Pl A (B :: L) (B :: R) := ⟨(List.Perm.cons B h.perm).trans (List.Perm.swap _ _ _)⟩
class Tk (K L : List HP) (R : outParam (List HP)) : Prop where
  perm : L.Perm (K ++ R)
instance (L : List HP) : Tk [] L L := ⟨List.Perm.refl _⟩
instance (A : HP) (K L R R' : List HP) [h : Pl A L R] [h' : Tk K R R'] : Tk (A :: K) L R' := ⟨h.perm.trans (List.Perm.cons A h'.perm)⟩
theorem tk {K L R : List HP} [h : Tk K L R] : L.Perm (K ++ R) := h.perm
theorem tk0 {K L : List HP} [h : Tk K L []] : L.Perm K := by have := h.perm; rwa [List.append_nil] at this
theorem tk1 {A : HP} {K L R : List HP} [h : Tk (A :: K) L R] : L.Perm (A :: (K ++ R)) := h.perm
/-! ### The judgement -/
inductive It where
  | code (c : Code)
  | endb (id : Nat)
  | ends
  | inv (φ : Act → World → Prop)
  | ops (all : Array Oper) (l : List Oper)
  | then_ (K : Act → World → Prop)
def FW (r : Option Nat) : Fence := { Fence.wide with round := r }
structure Fr (P : Program) where
  X : Cx P
  r : Option Nat
  base : World
  M : Nat → Prop
  n : Nat
  Q : Exit → Act → World → Prop
/-- What is still asked. -/
def post {P : Program} (fr : Fr P) : List It → Exit → Act → World → Prop
  | [] => fr.Q
  | .code c :: k => Exit.then (c.wpIn (FW fr.r) 0 P (post fr k)) (post fr k)
  | .endb id :: k => Exit.inBlock id (post fr k)
  | .ends :: k => Exit.noGoto (post fr k)
  | .inv φ :: k => Exit.then φ (post fr k)
  | .ops all l :: k => Exit.then (wpListIn (FW fr.r) 0 P all (post fr k) l) (post fr k)
  | .then_ K :: k => Exit.then K (post fr k)
/-- **Whatever state is told by ρ and L: the items still to be done do what is asked.** -/
def J {P : Program} (fr : Fr P) (ds : List Deferred) (ρ : Env) (L : List HP) (k : List It) : Prop :=
  ∀ a w, Env.ok fr.n ds ρ a → Sat fr.base fr.M L w → post fr k .normal a w

section
variable {P : Program} {fr : Fr P} {ds : List Deferred} {ρ : Env} {L : List HP} {k : List It}

theorem J.weak {σ : Env} {K : List HP} (s : Env.sub σ ρ) (p : L.Perm K) (h : J fr ds σ K k) : J fr ds ρ L k :=
  fun a w ha hw => h a w (ha.sub s) (hw.perm p)
theorem J.drop {K : List HP} (h : J fr ds ρ L k) : J fr ds ρ (L ++ K) k := fun a w ha hw => h a w ha hw.left
theorem J.world (h : ∀ w, Sat fr.base fr.M L w → J fr ds ρ L k) : J fr ds ρ L k := fun a w ha hw => h w hw a w ha hw

theorem s_seq {x y : Code} (h : J fr ds ρ L (.code x :: .code y :: k)) : J fr ds ρ L (.code (.seq x y) :: k) :=
  fun a w ha hw => wpIn_seq (h a w ha hw)
theorem s_skip (h : J fr ds ρ L k) : J fr ds ρ L (.code .skip :: k) := fun a w ha hw => wpIn_skip (h a w ha hw)
theorem s_label {l : Nat} (h : J fr ds ρ L k) : J fr ds ρ L (.code (.label l) :: k) := fun a w ha hw => wpIn_label (h a w ha hw)
theorem s_block {id : Nat} {c : Code} (h : J fr ds ρ L (.code c :: .endb id :: k)) : J fr ds ρ L (.code (.block id c) :: k) :=
  fun a w ha hw => wpIn_block (h a w ha hw)
theorem s_endb {id : Nat} (h : J fr ds ρ L k) : J fr ds ρ L (.endb id :: k) := fun a w ha hw => h a w ha hw
theorem s_ends (h : J fr ds ρ L k) : J fr ds ρ L (.ends :: k) := fun a w ha hw => h a w ha hw
theorem wpIn_scope_straight {F : Fence} {n : Nat} {Q : Exit → Act → World → Prop} {a : Act} {w : World} {c : Code} (h : c.wpIn F n P (Exit.noGoto Q) a w) : (Code.scope c).wpIn F n P Q a w := by
  intro b k cs hro hb hr
  have s0 : step P (lone (b.atR a (.code (.scope c) :: k)) cs w) = .next (lone (b.atR a (.code c :: .inScope c :: k)) cs w) :=
    step_lone_go (by simp [stepG, stepG.exec, Frame.atR])
  have s1 : ∀ a w, step P (lone (b.atR a (.inScope c :: k)) cs w) = .next (lone (b.atR a k) cs w) := fun a w =>
    step_lone_go (by simp [stepG, stepG.exec, Frame.atR])
  have h0 : (lone (b.atR a (.code (.scope c) :: k)) cs w).fenced P F := fenced_calm hb hr rfl
  obtain ⟨e, a₁, w₁, hq, harr⟩ := h b (.inScope c :: k) cs hro hb hr
  cases e with
  | normal => exact ⟨.normal, a₁, w₁, hq, .head h0 s0 (StepsIn.trans harr (.one (fenced_calm hb hr rfl) (s1 a₁ w₁)))⟩
  | exit id =>
    have hx : ∀ id, exitTo id (.inScope c :: k) = exitTo id k := fun id => by simp [exitTo]
    exact ⟨.exit id, a₁, w₁, hq, fun k' hk => .head h0 s0 (harr.1 k' (by rw [hx]; exact hk)),
      fun hr' hk => let ⟨k₁, h1, h2⟩ := harr.2 hr' (by rw [hx]; exact hk); ⟨k₁, h1, .head h0 s0 h2⟩⟩
  | goto l => exact hq.elim
  | ret => exact ⟨.ret, a₁, w₁, hq, .of_steps (b := b) (k := k) (cs := cs) (e := .ret) (.one h0 s0) harr⟩
  | panic ch => exact ⟨.panic ch, a₁, w₁, hq, .of_steps (b := b) (k := k) (cs := cs) (e := .panic ch) (.one h0 s0) harr⟩
  | outgrown => exact ⟨.outgrown, a₁, w₁, hq, .of_steps (b := b) (k := k) (cs := cs) (e := .outgrown) (.one h0 s0) harr⟩
theorem s_scope {c : Code} (h : J fr ds ρ L (.code c :: .ends :: k)) : J fr ds ρ L (.code (.scope c) :: k) :=
  fun a w ha hw => wpIn_scope_straight (h a w ha hw)
def It.to (id : Nat) : List It → Option (List It)
  | [] => none
  | .endb i :: k => bif Nat.beq i id then some k else It.to id k
  | _ :: k => It.to id k
theorem post_exit {id : Nat} : ∀ {k k' : List It}, It.to id k = some k' → ∀ a w, post fr k' .normal a w → post fr k (.exit id) a w
  | .endb i :: k, k', e, a, w, h => by
    simp only [It.to] at e
    simp only [post, Exit.inBlock]
    cases hb : Nat.beq i id with
    | true => rw [hb] at e; cases e; rw [if_pos (Nat.eq_of_beq_eq_true hb).symm]; exact h
    | false =>
      rw [hb] at e
      rw [if_neg (fun x => by rw [x] at hb; rw [show Nat.beq i i = true from Nat.beq_refl i] at hb; cases hb)]
      exact post_exit e a w h
  | .code _ :: k, _, e, a, w, h => post_exit (k := k) e a w h
  | .ends :: k, _, e, a, w, h => post_exit (k := k) e a w h
  | .inv _ :: k, _, e, a, w, h => post_exit (k := k) e a w h
  | .ops _ _ :: k, _, e, a, w, h => post_exit (k := k) e a w h
  | .then_ _ :: k, _, e, a, w, h => post_exit (k := k) e a w h
theorem s_exit {id : Nat} {k' : List It} (e : It.to id k = some k') (h : J fr ds ρ L k') : J fr ds ρ L (.code (.exit id) :: k) :=
  fun a w ha hw => wpIn_exit (post_exit e a w (h a w ha hw))
/-- Out of the whole list: what the frame asks at that exit (a round's body). -/
theorem post_out {id : Nat} : ∀ {k : List It}, It.to id k = none → ∀ a w, fr.Q (.exit id) a w → post fr k (.exit id) a w
  | [], _, _, _, h => h
  | .endb i :: k, e, a, w, h => by
    simp only [It.to] at e
    simp only [post, Exit.inBlock]
    cases hb : Nat.beq i id with
    | true => rw [hb] at e; cases e
    | false =>
      rw [hb] at e
      rw [if_neg (fun x => by rw [x] at hb; rw [show Nat.beq i i = true from Nat.beq_refl i] at hb; cases hb)]
      exact post_out e a w h
  | .code _ :: k, e, a, w, h => post_out (k := k) e a w h
  | .ends :: k, e, a, w, h => post_out (k := k) e a w h
  | .inv _ :: k, e, a, w, h => post_out (k := k) e a w h
  | .ops _ _ :: k, e, a, w, h => post_out (k := k) e a w h
  | .then_ _ :: k, e, a, w, h => post_out (k := k) e a w h
theorem s_out {id : Nat} (e : It.to id k = none) (h : ∀ a w, Env.ok fr.n ds ρ a → Sat fr.base fr.M L w → fr.Q (.exit id) a w) : J fr ds ρ L (.code (.exit id) :: k) :=
  fun a w ha hw => wpIn_exit (post_out e a w (h a w ha hw))
theorem post_ret : ∀ (k : List It) (a : Act) (w : World), fr.Q .ret a w → post fr k .ret a w
  | [], _, _, h => h
  | .code _ :: k, a, w, h => post_ret k a w h
  | .endb _ :: k, a, w, h => post_ret k a w h
  | .ends :: k, a, w, h => post_ret k a w h
  | .inv _ :: k, a, w, h => post_ret k a w h
  | .ops _ _ :: k, a, w, h => post_ret k a w h
  | .then_ _ :: k, a, w, h => post_ret k a w h
theorem s_ret (h : ∀ a w, Env.ok fr.n ds ρ a → Sat fr.base fr.M L w → fr.Q .ret a w) : J fr ds ρ L (.code .ret :: k) :=
  fun a w ha hw => wpIn_ret (post_ret k a w (h a w ha hw))

/-! #### Choices -/
theorem s_condT {c : Operand} {x y : Code} (hc : ρ.ev c = some (.bool true)) (h : J fr ds ρ L (.code x :: k)) : J fr ds ρ L (.code (.cond c x y) :: k) :=
  fun a w ha hw => wpIn_cond_true (ha.ev hc) (h a w ha hw)
theorem s_condF {c : Operand} {x y : Code} (hc : ρ.ev c = some (.bool false)) (h : J fr ds ρ L (.code y :: k)) : J fr ds ρ L (.code (.cond c x y) :: k) :=
  fun a w ha hw => wpIn_cond_false (ha.ev hc) (h a w ha hw)
theorem s_cond {c : Operand} {x y : Code} {p : Prop} [Decidable p] (hc : ρ.ev c = some (.bool (decide p))) (hT : p → J fr ds ρ L (.code x :: k)) (hF : ¬ p → J fr ds ρ L (.code y :: k)) :
    J fr ds ρ L (.code (.cond c x y) :: k) := by
  intro a w ha hw
  by_cases hp : p
  · exact wpIn_cond_true (by rw [ha.ev hc, decide_eq_true hp]) (hT hp a w ha hw)
  · exact wpIn_cond_false (by rw [ha.ev hc, decide_eq_false hp]) (hF hp a w ha hw)
theorem s_condb {c : Operand} {x y : Code} {b : Bool} (hc : ρ.ev c = some (.bool b)) (hT : b = true → J fr ds ρ L (.code x :: k)) (hF : b = false → J fr ds ρ L (.code y :: k)) :
    J fr ds ρ L (.code (.cond c x y) :: k) := by
  intro a w ha hw
  cases hb : b with
  | true => exact wpIn_cond_true (by rw [ha.ev hc, hb]) (hT hb a w ha hw)
  | false => exact wpIn_cond_false (by rw [ha.ev hc, hb]) (hF hb a w ha hw)

/-! #### Loops -/
/-- The head of a loop: for some ghost state. -/
def Head {σ : Type} (fr : Fr P) (ds : List Deferred) (ρI : σ → Env) (LI : σ → List HP) (φ : σ → Prop) (μ : σ → Nat) (m : Nat) (a : Act) (w : World) : Prop :=
  ∃ s, φ s ∧ μ s < m ∧ Env.ok fr.n ds (ρI s) a ∧ Sat fr.base fr.M (LI s) w
theorem wpIn_loop_ghost {F : Fence} {n : Nat} {Q : Exit → Act → World → Prop} {σ : Type} {c : Code} (I : σ → Act → World → Prop) (μ : σ → Nat) (s0 : σ) {a : Act} {w : World} (h₀ : I s0 a w)
    (round : ∀ s a w, I s a w → c.wpIn F n P (Exit.then (fun a' w' => ∃ s', I s' a' w' ∧ μ s' < μ s) Q) a w) : (Code.loop c).wpIn F n P Q a w := by
  intro b k cs hro hb hr
  have key : ∀ j s a w, μ s = j → I s a w →
      ∃ e a' w', Q e a' w' ∧ ArrivesIn (Machine.fenced P F) P (lone (b.atR a (.code c :: .inLoop c :: k)) cs w) b k cs e a' w' := by
    intro j
    induction j using Nat.strongRecOn with
    | _ j ih =>
      intro s a w hn hI
      obtain ⟨e, a₁, w₁, hq, harr⟩ := round s a w hI b (.inLoop c :: k) cs hro hb hr
      cases e with
      | normal =>
        obtain ⟨s', hI₁, hlt⟩ := hq
        obtain ⟨e₂, a₂, w₂, hq₂, harr₂⟩ := ih (μ s') (hn ▸ hlt) s' a₁ w₁ rfl hI₁
        exact ⟨e₂, a₂, w₂, hq₂, .of_steps (StepsIn.trans harr (.one (fenced_calm hb hr rfl) stepR_inLoop)) harr₂⟩
      | exit id => exact ⟨_, a₁, w₁, hq, .pass (x := .inLoop c) rfl (fun _ _ => .inl (by simp)) harr⟩
      | goto l => exact ⟨_, a₁, w₁, hq, .pass (x := .inLoop c) rfl (fun _ _ => .inl (by simp)) harr⟩
      | ret => exact ⟨_, a₁, w₁, hq, .pass (x := .inLoop c) rfl (fun _ _ => .inl (by simp)) harr⟩
      | panic ch => exact ⟨_, a₁, w₁, hq, .pass (x := .inLoop c) rfl (fun _ _ => .inl (by simp)) harr⟩
      | outgrown => exact ⟨_, a₁, w₁, hq, .pass (x := .inLoop c) rfl (fun _ _ => .inl (by simp)) harr⟩
  obtain ⟨e, a', w', hq, harr⟩ := key _ s0 a w rfl h₀
  exact ⟨e, a', w', hq, .of_steps (.one (fenced_calm hb hr rfl) stepR_loop) harr⟩
theorem s_loop {σ : Type} {c : Code} (ρI : σ → Env) (LI : σ → List HP) (φ : σ → Prop) (μ : σ → Nat) (s0 : σ) {junk : List HP} (hρ : Env.sub (ρI s0) ρ) (hL : L.Perm (LI s0 ++ junk)) (h0 : φ s0)
    (round : ∀ s, φ s → J fr ds (ρI s) (LI s) (.code c :: .inv (Head fr ds ρI LI φ μ (μ s)) :: k)) : J fr ds ρ L (.code (.loop c) :: k) := by
  intro a w ha hw
  refine wpIn_loop_ghost (fun s a w => φ s ∧ Env.ok fr.n ds (ρI s) a ∧ Sat fr.base fr.M (LI s) w) μ s0 ⟨h0, ha.sub hρ, (hw.perm hL).left⟩ ?_
  rintro s a w ⟨hs, ha, hw⟩
  refine wpIn_mono (round s hs a w ha hw) ?_
  rintro e a w hq
  cases e with
  | normal => obtain ⟨s', h1, h2, h3, h4⟩ := hq; exact ⟨s', ⟨h1, h3, h4⟩, h2⟩
  | _ => exact hq
/-- .. whose rounds leave what is owned as it is. -/
theorem s_loop0 {σ : Type} {c : Code} (ρI : σ → Env) (φ : σ → Prop) (μ : σ → Nat) (s0 : σ) (hρ : Env.sub (ρI s0) ρ) (h0 : φ s0)
    (round : ∀ s, φ s → J fr ds (ρI s) L (.code c :: .inv (Head fr ds ρI (fun _ => L) φ μ (μ s)) :: k)) : J fr ds ρ L (.code (.loop c) :: k) :=
  s_loop ρI (fun _ => L) φ μ s0 (junk := []) hρ (by rw [List.append_nil]) h0 round
theorem s_inv {σ : Type} {ρI : σ → Env} {LI : σ → List HP} {φ : σ → Prop} {μ : σ → Nat} {m : Nat} (s : σ) {junk : List HP} (hs : φ s) (hμ : μ s < m) (hρ : Env.sub (ρI s) ρ) (hL : L.Perm (LI s ++ junk)) :
    J fr ds ρ L (.inv (Head fr ds ρI LI φ μ m) :: k) := fun _ _ ha hw => ⟨s, hs, hμ, ha.sub hρ, (hw.perm hL).left⟩
theorem s_then {K : Act → World → Prop} (h : ∀ a w, Env.ok fr.n ds ρ a → Sat fr.base fr.M L w → K a w) : J fr ds ρ L (.then_ K :: k) := h

/-! #### Regions -/
theorem s_region {id : Nat} {l : List Oper} (h : J fr ds ρ L (.ops l.toArray l :: k)) : J fr ds ρ L (.code (.region id l.toArray false) :: k) :=
  fun a w ha hw => wpIn_region_lit (h a w ha hw)
theorem s_done {all : Array Oper} (h : J fr ds ρ L k) : J fr ds ρ L (.ops all [] :: k) := fun a w ha hw => h a w ha hw
variable {all : Array Oper} {rest : List Oper}
theorem fw_about {r : Option Nat} {f : FuncId} : (FW r).fn f := trivial
/-- One operation, in whatever way it goes on. -/
theorem s_op {o : Oper} (hg : o.guard = none) (hdf : ∀ c, o.op ≠ .defer c)
    (h : ∀ a w, Env.ok fr.n ds ρ a → Sat fr.base fr.M L w → o.uponIn (FW fr.r) 0 P a (wpListIn (FW fr.r) 0 P all (post fr k) rest) (post fr k) ((execOp a.eval o).run P w)) :
    J fr ds ρ L (.ops all (o :: rest) :: k) := by
  intro a w ha hw
  show wpListIn (FW fr.r) 0 P all (post fr k) (o :: rest) a w
  simp only [wpListIn, Region.wanted, hg, if_true, Oper.wpIn]
  refine ⟨fun _ _ => trivial, ?_⟩
  rw [Oper.semAt_eq _ _ _ hdf]
  exact h a w ha hw
/-- Guards. -/
theorem yielded_of {a : Act} {j t : Nat} {b : Bool} (hj : (all[j]?).bind (·.dst) = some t) (ha : Env.ok fr.n ds ρ a) (ht : ρ.get t = some (.bool b)) : yielded all a.tmps j = some b := by
  have h1 := ha.get t _ ht
  unfold yielded
  rw [hj, Option.bind_some]
  rw [Array.getD_eq_getD_getElem?] at h1
  cases h2 : a.tmps[t]? with
  | none => rw [h2] at h1; simp only [Option.getD_none] at h1; cases h1
  | some u => rw [h2] at h1; simp only [Option.getD_some] at h1; rw [h1]
theorem s_guard {dst : Option Tmp} {op : Op} {ty : TypeId} {pos : String} {af : Array Edge} {j t : Nat} {b : Bool} (hj : (all[j]?).bind (·.dst) = some t) (ht : ρ.get t = some (.bool b))
    (h : J fr ds ρ L (.ops all (⟨dst, op, ty, pos, af, none⟩ :: rest) :: k)) : J fr ds ρ L (.ops all (⟨dst, op, ty, pos, af, some (j, b)⟩ :: rest) :: k) := by
  intro a w ha hw
  have := h a w ha hw
  have hy := yielded_of hj ha ht
  change wpListIn (FW fr.r) 0 P all (post fr k) (⟨dst, op, ty, pos, af, none⟩ :: rest) a w at this
  show wpListIn (FW fr.r) 0 P all (post fr k) (⟨dst, op, ty, pos, af, some (j, b)⟩ :: rest) a w
  simp only [wpListIn, Region.wanted, hy, beq_self_eq_true, if_true] at this ⊢
  exact this
theorem s_unguard {d : Nat} {op : Op} {ty : TypeId} {pos : String} {af : Array Edge} {j t : Nat} {b c : Bool} (hj : (all[j]?).bind (·.dst) = some t) (ht : ρ.get t = some (.bool b)) (hc : (b == c) = false)
    (hd : Nat.ble (d + 1) fr.n = true) (h : J fr ds ((d, undef) :: ρ) L (.ops all rest :: k)) : J fr ds ρ L (.ops all (⟨some d, op, ty, pos, af, some (j, c)⟩ :: rest) :: k) := by
  intro a w ha hw
  have := h _ w (ha.put hd undef) hw
  have hy := yielded_of hj ha ht
  change wpListIn (FW fr.r) 0 P all (post fr k) rest _ w at this
  show wpListIn (FW fr.r) 0 P all (post fr k) (⟨some d, op, ty, pos, af, some (j, c)⟩ :: rest) a w
  have hf : (some b == some c) = false := hc
  simp only [wpListIn, Region.wanted, hy, hf, Bool.false_eq_true, if_false]
  exact ⟨fun _ _ => trivial, this⟩
/-- A Bool in a slot is parted. -/
theorem s_split {x : List It} {t : Nat} {p : Prop} [Decidable p] (ht : ρ.get t = some (.bool (decide p))) (hT : p → J fr ds ((t, .bool true) :: ρ) L x) (hF : ¬ p → J fr ds ((t, .bool false) :: ρ) L x) :
    J fr ds ρ L x := by
  intro a w ha hw
  have key : ∀ b, decide p = b → Env.ok fr.n ds ((t, .bool b) :: ρ) a := fun b hb => ⟨ha.size, ha.defers, fun u v e => by
    simp only [Env.get] at e
    cases hbq : Nat.beq t u with
    | true => rw [hbq] at e; cases e; have := Nat.eq_of_beq_eq_true hbq; subst this; rw [← hb]; exact ha.get _ _ ht
    | false => rw [hbq] at e; exact ha.get u v e⟩
  by_cases hp : p
  · exact hT hp a w (key true (decide_eq_true hp)) hw
  · exact hF hp a w (key false (decide_eq_false hp)) hw
theorem s_splitb {x : List It} {t : Nat} {b : Bool} (ht : ρ.get t = some (.bool b)) (hT : b = true → J fr ds ((t, .bool true) :: ρ) L x) (hF : b = false → J fr ds ((t, .bool false) :: ρ) L x) :
    J fr ds ρ L x :=
  s_split (p := b = true) (by rw [ht]; cases b <;> rfl) hT (fun h => hF (by simpa using h))

/-- .. a guard's. -/
theorem s_gsplit {dst : Option Tmp} {op : Op} {ty : TypeId} {pos : String} {af : Array Edge} {j t : Nat} {b : Bool} {p : Prop} [Decidable p] (_hj : (all[j]?).bind (·.dst) = some t) (ht : ρ.get t = some (.bool (decide p)))
    (hT : p → J fr ds ((t, .bool true) :: ρ) L (.ops all (⟨dst, op, ty, pos, af, some (j, b)⟩ :: rest) :: k)) (hF : ¬ p → J fr ds ((t, .bool false) :: ρ) L (.ops all (⟨dst, op, ty, pos, af, some (j, b)⟩ :: rest) :: k)) :
    J fr ds ρ L (.ops all (⟨dst, op, ty, pos, af, some (j, b)⟩ :: rest) :: k) := s_split ht hT hF
theorem s_gsplitb {dst : Option Tmp} {op : Op} {ty : TypeId} {pos : String} {af : Array Edge} {j t : Nat} {b c : Bool} (_hj : (all[j]?).bind (·.dst) = some t) (ht : ρ.get t = some (.bool c))
    (hT : c = true → J fr ds ((t, .bool true) :: ρ) L (.ops all (⟨dst, op, ty, pos, af, some (j, b)⟩ :: rest) :: k)) (hF : c = false → J fr ds ((t, .bool false) :: ρ) L (.ops all (⟨dst, op, ty, pos, af, some (j, b)⟩ :: rest) :: k)) :
    J fr ds ρ L (.ops all (⟨dst, op, ty, pos, af, some (j, b)⟩ :: rest) :: k) := s_splitb ht hT hF

/-- 'op' makes 'v' and turns nothing, in whatever state is told by ρ and L. -/
def Yd {P : Program} (fr : Fr P) (ds : List Deferred) (ρ : Env) (L : List HP) (op : Op) (ty : TypeId) (v : Value) : Prop :=
  (∀ c, op ≠ .defer c) ∧ ∀ a w, Env.ok fr.n ds ρ a → Sat fr.base fr.M L w → ∀ o : Oper, o.op = op → o.type = ty → (execOp a.eval o).run P w = .ok (.value v) w
theorem s_q {d : Nat} {op : Op} {ty : TypeId} {pos : String} {af : Array Edge} {v : Value} (hy : Yd fr ds ρ L op ty v) (hd : Nat.ble (d + 1) fr.n = true)
    (h : J fr ds ((d, v) :: ρ) L (.ops all rest :: k)) : J fr ds ρ L (.ops all (⟨some d, op, ty, pos, af, none⟩ :: rest) :: k) := by
  refine s_op rfl hy.1 fun a w ha hw => ?_
  rw [hy.2 a w ha hw _ rfl rfl]
  exact h _ w (ha.put hd v) hw
/-- An operation that has an effect on the world. -/
theorem s_eff {d : Nat} {op : Op} {ty : TypeId} {pos : String} {af : Array Edge} (hdf : ∀ c, op ≠ .defer c) (hd : Nat.ble (d + 1) fr.n = true)
    (h : ∀ a w, Env.ok fr.n ds ρ a → Sat fr.base fr.M L w → ∀ o : Oper, o.op = op → o.type = ty → ∃ v w' L', (execOp a.eval o).run P w = .ok (.value v) w' ∧ Sat fr.base fr.M L' w' ∧ J fr ds ((d, v) :: ρ) L' (.ops all rest :: k)) :
    J fr ds ρ L (.ops all (⟨some d, op, ty, pos, af, none⟩ :: rest) :: k) := by
  refine s_op rfl hdf fun a w ha hw => ?_
  obtain ⟨v, w', L', h1, h2, h3⟩ := h a w ha hw ⟨some d, op, ty, pos, af, none⟩ rfl rfl
  rw [h1]
  exact h3 _ w' (ha.put hd v) h2
/-- .. and leaves no value. -/
theorem s_eff0 {op : Op} {ty : TypeId} {pos : String} {af : Array Edge} (hdf : ∀ c, op ≠ .defer c)
    (h : ∀ a w, Env.ok fr.n ds ρ a → Sat fr.base fr.M L w → ∀ o : Oper, o.op = op → o.type = ty → ∃ x w' L', (execOp a.eval o).run P w = .ok x w' ∧ (x = .skip ∨ ∃ v, x = .value v) ∧ Sat fr.base fr.M L' w' ∧ J fr ds ρ L' (.ops all rest :: k)) :
    J fr ds ρ L (.ops all (⟨none, op, ty, pos, af, none⟩ :: rest) :: k) := by
  refine s_op rfl hdf fun a w ha hw => ?_
  obtain ⟨x, w', L', h1, h2, h3, h4⟩ := h a w ha hw ⟨none, op, ty, pos, af, none⟩ rfl rfl
  rw [h1]
  rcases h2 with rfl | ⟨v, rfl⟩
  · exact h4 _ w' (ha.skip undef) h3
  · exact h4 _ w' (ha.skip v) h3

/-! #### Calls -/
/-- **What a call comes to**: it returns v; what it then owns is L'; nothing else that was there has turned, but what it was handed to own (M). -/
def Ret (P : Program) (f : FuncId) (args : List Value) (w : World) (M : Nat → Prop) (R : Value → List HP → Prop) : Prop :=
  Calls P f args.toArray w fun e w' => ∃ v L', e = .returned v ∧ R v L' ∧ Sat w M L' w'
theorem Ret.mono {f : FuncId} {args : List Value} {w : World} {M : Nat → Prop} {R R' : Value → List HP → Prop} (h : Ret P f args w M R) (hr : ∀ v L', R v L' → R' v L') : Ret P f args w M R' :=
  Calls.mono h fun _ _ ⟨v, L', he, hR, hS⟩ => ⟨v, L', he, hr v L' hR, hS⟩
theorem run_callFunc {f : FuncId} {args : Array Value} {w : World} (h : callable P f = true) : (callFunc f args).run P w = .ok (.enter f args) w := by
  unfold callable at h
  cases hf : P.funcs[f]? with
  | none => rw [hf] at h; cases h
  | some fn =>
    rw [hf] at h
    simp only [Bool.and_eq_true, bne_iff_ne, ne_eq] at h
    have h2 : ¬ fn.body = none := by intro e; rw [e] at h; simp at h
    simp [callFunc, hf, h.1, h2]
theorem uponIn_call {o : Oper} {a : Act} {w : World} {f : FuncId} {args : List Value} {M : Nat → Prop} {R : Value → List HP → Prop} {next : Act → World → Prop} {Q : Exit → Act → World → Prop}
    (h : Ret P f args w M R) (hn : ∀ v L' w', R v L' → Sat w M L' w' → next (a.put o.dst v) w') :
    o.uponIn (FW fr.r) 0 P a next Q (.ok (.enter f args.toArray) w) := by
  rw [Oper.uponIn_enter]
  refine ⟨fun x => absurd x (by simp [FW, Fence.wide]), ?_⟩
  have key : CallsIn Fence.wide (0 - 1) P f args.toArray w fun | .returned v, w'' => next (a.put o.dst v) w'' | .panicked chain, w'' => Q (.panic chain) a w'' | .outgrown, _ => LetsOut Q := by
    refine (callsIn_wide (n := 0 - 1)).2 (Calls.mono h ?_)
    rintro e w' ⟨v, L', rfl, hR, hS⟩
    exact hn v L' w' hR hS
  cases hr : fr.r with
  | none => exact key
  | some l => exact key
theorem run_static {a : Act} {w : World} {f : FuncId} {xs : List Operand} {ts : Array TypeId} {vs : List Value} {o : Oper} (ho : o.op = .call ⟨.value (.func f), xs.toArray, ts⟩)
    (hx : xs.map a.eval = vs) (hf : callable P f = true) : (execOp a.eval o).run P w = .ok (.enter f vs.toArray) w := by
  unfold execOp
  rw [ho]
  have hm : (xs.toArray.map a.eval) = vs.toArray := by rw [List.map_toArray, hx]
  simp only [resolve, Act.eval, Deferred.ofValue, Sem.run_bind, Sem.run_pure, Result.andThen_ok, invoke, hm]
  simpa using run_callFunc hf
/-- A call of a function by its name. 'pre': what it is handed to own. -/
theorem s_call {d : Nat} {f : FuncId} {xs : List Operand} {ts : Array TypeId} {ty : TypeId} {pos : String} {af : Array Edge} {vs : List Value} {pre rem : List HP} {R : Value → List HP → Prop}
    (hx : ρ.evs xs = some vs) (hf : fr.X.has f = true) (hL : L.Perm (pre ++ rem))
    (hc : ∀ w N, Owns w pre N → (∀ w', Since w N w' → Sat fr.base fr.M rem w') → Ret P f vs w N R) (hd : Nat.ble (d + 1) fr.n = true)
    (h : ∀ v L', R v L' → J fr ds ((d, v) :: ρ) (L' ++ rem) (.ops all rest :: k)) :
    J fr ds ρ L (.ops all (⟨some d, .call ⟨.value (.func f), xs.toArray, ts⟩, ty, pos, af, none⟩ :: rest) :: k) := by
  refine s_op rfl (fun c e => by cases e) fun a w ha hw => ?_
  rw [run_static rfl (ha.evs hx) (fr.X.call hf)]
  have hw' := hw.perm hL
  obtain ⟨N, ho, hframe, hl⟩ := hw'.framed
  refine uponIn_call (hc w N ho hl) fun v L' w' hR hS => ?_
  exact h v L' hR _ w' (ha.put hd v) (hframe L' w' hS)
theorem s_call0 {f : FuncId} {xs : List Operand} {ts : Array TypeId} {ty : TypeId} {pos : String} {af : Array Edge} {vs : List Value} {pre rem : List HP} {R : Value → List HP → Prop}
    (hx : ρ.evs xs = some vs) (hf : fr.X.has f = true) (hL : L.Perm (pre ++ rem))
    (hc : ∀ w N, Owns w pre N → (∀ w', Since w N w' → Sat fr.base fr.M rem w') → Ret P f vs w N R)
    (h : ∀ v L', R v L' → J fr ds ρ (L' ++ rem) (.ops all rest :: k)) :
    J fr ds ρ L (.ops all (⟨none, .call ⟨.value (.func f), xs.toArray, ts⟩, ty, pos, af, none⟩ :: rest) :: k) := by
  refine s_op rfl (fun c e => by cases e) fun a w ha hw => ?_
  rw [run_static rfl (ha.evs hx) (fr.X.call hf)]
  have hw' := hw.perm hL
  obtain ⟨N, ho, hframe, hl⟩ := hw'.framed
  refine uponIn_call (hc w N ho hl) fun v L' w' hR hS => ?_
  exact h v L' hR _ w' (ha.skip v) (hframe L' w' hS)

/-! #### A function's beginning and end -/
theorem ret_of_J {f : FuncId} {fn : Func} {c : Code} {args : List Value} {w : World} {M : Nat → Prop} {pre : List HP} {R : Value → List HP → Prop} (X : Cx P) (hf : P.funcs[f]? = some fn) (hb : fn.body = some c)
    (hn : args.length ≤ fn.ntmps) (hM : Owns w pre M)
    (h : J ⟨X, none, w, M, fn.ntmps, bodyPostM (FW none) 0 P fn fun e w' => ∃ v L', e = .returned v ∧ R v L' ∧ Sat w M L' w'⟩ [] (Env.ofArgs 0 args) pre [.code c]) : Ret P f args w M R := by
  refine (callsIn_wide (n := 0)).1 (callsIn_of_wp_marks (F := Fence.wide) hf hb trivial ?_ rfl)
  refine h _ w ⟨?_, rfl, fun t v e => ?_⟩ hM.sat
  · simp; omega
  · obtain ⟨_, h2⟩ := Env.ofArgs_get args 0 t v e
    obtain ⟨hl, he⟩ := List.getElem?_eq_some_iff.1 h2
    simp only [Nat.sub_zero] at hl he
    simp [Array.getD_eq_getD_getElem?, Array.getElem?_append, hl, he]
/-- The results are told by ρ and L. -/
def Res {P : Program} (fr : Fr P) (ds : List Deferred) (ρ : Env) (L : List HP) (fn : Func) (v : Value) : Prop :=
  ∀ a w, Env.ok fr.n ds ρ a → Sat fr.base fr.M L w → (results fn a.tmps).run P w = .ok v w
theorem s_return {X : Cx P} {base : World} {M : Nat → Prop} {n : Nat} {fn : Func} {R : Value → List HP → Prop} {v : Value} {L' junk : List HP} (hR : R v L') [hL : Tk L' L junk]
    (hv : Res ⟨X, none, base, M, n, bodyPostM (FW none) 0 P fn fun e w' => ∃ v L', e = .returned v ∧ R v L' ∧ Sat base M L' w'⟩ [] ρ L fn v) :
    J ⟨X, none, base, M, n, bodyPostM (FW none) 0 P fn fun e w' => ∃ v L', e = .returned v ∧ R v L' ∧ Sat base M L' w'⟩ [] ρ L (.code .ret :: k) := by
  refine s_ret fun a w ha hw => ?_
  show LeavesInM _ _ _ _ _ _ a.defers _ _
  rw [ha.defers]
  exact ⟨v, hv a w ha hw, v, L', rfl, hR, (hw.perm hL.perm).left⟩
theorem s_end {X : Cx P} {base : World} {M : Nat → Prop} {n : Nat} {fn : Func} {R : Value → List HP → Prop} {v : Value} {L' junk : List HP} (hR : R v L') [hL : Tk L' L junk]
    (hv : Res ⟨X, none, base, M, n, bodyPostM (FW none) 0 P fn fun e w' => ∃ v L', e = .returned v ∧ R v L' ∧ Sat base M L' w'⟩ [] ρ L fn v) :
    J ⟨X, none, base, M, n, bodyPostM (FW none) 0 P fn fun e w' => ∃ v L', e = .returned v ∧ R v L' ∧ Sat base M L' w'⟩ [] ρ L [] := by
  intro a w ha hw
  show LeavesInM _ _ _ _ _ _ a.defers _ _
  rw [ha.defers]
  exact ⟨v, hv a w ha hw, v, L', rfl, hR, (hw.perm hL.perm).left⟩
end
end Go.E

/- The proof kit 'E', part 3: operations that only read: what each makes. -/
namespace Go.E
open Go Go.RowKit
section
variable {P : Program} {fr : Fr P} {ds : List Deferred} {ρ : Env} {L : List HP} {k : List It} {ty : TypeId}

theorem exec_v {op : Op} {v : Value} (hdf : ∀ c, op ≠ .defer c) (h : ∀ a w, Env.ok fr.n ds ρ a → Sat fr.base fr.M L w → ∀ dst pos af g, (execOp a.eval ⟨dst, op, ty, pos, af, g⟩).run P w = .ok (.value v) w) : Yd fr ds ρ L op ty v := by
  refine ⟨hdf, fun a w ha hw o ho ht => ?_⟩
  obtain ⟨dst, op', ty', pos, af, g⟩ := o
  simp only at ho ht
  subst ho; subst ht
  exact h a w ha hw dst pos af g

theorem y_move {x : Operand} {v : Value} (hx : ρ.ev x = some v) : Yd fr ds ρ L (.move x) ty v :=
  exec_v (fun c e => by cases e) fun a w ha _ _ _ _ _ => by simp [execOp, ha.ev hx]
theorem y_assign {x : Operand} {v : Value} (hx : ρ.ev x = some v) : Yd fr ds ρ L (.assign x) ty v :=
  exec_v (fun c e => by cases e) fun a w ha _ _ _ _ _ => by simp [execOp, ha.ev hx]
theorem y_pickT {c x y : Operand} {v : Value} (hc : ρ.ev c = some (.bool true)) (hx : ρ.ev x = some v) : Yd fr ds ρ L (.pick c x y) ty v :=
  exec_v (fun c e => by cases e) fun a w ha _ _ _ _ _ => by simp [execOp, ha.ev hx, ha.ev hc, asBool]
theorem y_pickF {c x y : Operand} {v : Value} (hc : ρ.ev c = some (.bool false)) (hx : ρ.ev y = some v) : Yd fr ds ρ L (.pick c x y) ty v :=
  exec_v (fun c e => by cases e) fun a w ha _ _ _ _ _ => by simp [execOp, ha.ev hx, ha.ev hc, asBool]
theorem y_nilCheck {x : Operand} {ad : Addr} (hx : ρ.ev x = some (.pointer (some ad))) : Yd fr ds ρ L (.nilCheck x) ty (.pointer (some ad)) :=
  exec_v (fun c e => by cases e) fun a w ha _ _ _ _ _ => by simp [execOp, ha.ev hx]

/-! ### Numbers -/
theorem binOp_run {op : BinOp} {t t' : TypeId} {x y : Operand} {va vb v : Value} (hx : ρ.ev x = some va) (hy : ρ.ev y = some vb)
    (h : ∀ w, (do eqGuard op t x y va vb; Go.binOp op t va vb : Sem Value).run P w = .ok v w) : Yd fr ds ρ L (.binOp op t x y t') ty v :=
  exec_v (fun c e => by cases e) fun a w ha _ _ _ _ _ => by
    have := h w
    simp only [execOp, ha.ev hx, ha.ev hy, Sem.run_bind] at this ⊢
    rw [this]; rfl
section ints
variable {t t' : TypeId} {x y : Operand} {kd : IntKind} {m n : Int}
theorem y_addw (hx : ρ.ev x = some (.int kd m)) (hy : ρ.ev y = some (.int kd n)) : Yd fr ds ρ L (.binOp .add t x y t') ty (.int kd (kd.wrap (m + n))) :=
  binOp_run hx hy fun w => by simp [eqGuard, Go.binOp, Op.intArith]
theorem y_subw (hx : ρ.ev x = some (.int kd m)) (hy : ρ.ev y = some (.int kd n)) : Yd fr ds ρ L (.binOp .sub t x y t') ty (.int kd (kd.wrap (m - n))) :=
  binOp_run hx hy fun w => by simp [eqGuard, Go.binOp, Op.intArith]
theorem y_mulw (hx : ρ.ev x = some (.int kd m)) (hy : ρ.ev y = some (.int kd n)) : Yd fr ds ρ L (.binOp .mul t x y t') ty (.int kd (kd.wrap (m * n))) :=
  binOp_run hx hy fun w => by simp [eqGuard, Go.binOp, Op.intArith]
theorem y_add (hx : ρ.ev x = some (.int .i64 m)) (hy : ρ.ev y = some (.int .i64 n)) (h : -9223372036854775808 ≤ m + n ∧ m + n ≤ 9223372036854775807) : Yd fr ds ρ L (.binOp .add t x y t') ty (.int .i64 (m + n)) := by
  have := y_addw (fr := fr) (ds := ds) (L := L) (ty := ty) (t := t) (t' := t') hx hy
  rwa [IntWalk.i64_in _ h] at this
theorem y_sub (hx : ρ.ev x = some (.int .i64 m)) (hy : ρ.ev y = some (.int .i64 n)) (h : -9223372036854775808 ≤ m - n ∧ m - n ≤ 9223372036854775807) : Yd fr ds ρ L (.binOp .sub t x y t') ty (.int .i64 (m - n)) := by
  have := y_subw (fr := fr) (ds := ds) (L := L) (ty := ty) (t := t) (t' := t') hx hy
  rwa [IntWalk.i64_in _ h] at this
theorem y_mul (hx : ρ.ev x = some (.int .i64 m)) (hy : ρ.ev y = some (.int .i64 n)) (h : -9223372036854775808 ≤ m * n ∧ m * n ≤ 9223372036854775807) : Yd fr ds ρ L (.binOp .mul t x y t') ty (.int .i64 (m * n)) := by
  have := y_mulw (fr := fr) (ds := ds) (L := L) (ty := ty) (t := t) (t' := t') hx hy
  rwa [IntWalk.i64_in _ h] at this
theorem y_quow (hx : ρ.ev x = some (.int kd m)) (hy : ρ.ev y = some (.int kd n)) (h : n ≠ 0) : Yd fr ds ρ L (.binOp .quo t x y t') ty (.int kd (kd.wrap (m.tdiv n))) :=
  binOp_run hx hy fun w => by simp [eqGuard, Go.binOp, Op.intDiv, h]
theorem y_remw (hx : ρ.ev x = some (.int kd m)) (hy : ρ.ev y = some (.int kd n)) (h : n ≠ 0) : Yd fr ds ρ L (.binOp .rem t x y t') ty (.int kd (m.tmod n)) :=
  binOp_run hx hy fun w => by simp [eqGuard, Go.binOp, Op.intDiv, h]
theorem y_quo (hx : ρ.ev x = some (.int .i64 m)) (hy : ρ.ev y = some (.int .i64 n)) (h : 0 < n) (hm : 0 ≤ m) (hm' : m ≤ 9223372036854775807) : Yd fr ds ρ L (.binOp .quo t x y t') ty (.int .i64 (m / n)) := by
  have := y_quow (fr := fr) (ds := ds) (L := L) (ty := ty) (t := t) (t' := t') hx hy (by omega)
  rw [Int.tdiv_eq_ediv_of_nonneg hm, IntWalk.i64_in _ ⟨by have := Int.ediv_nonneg hm (Int.le_of_lt h); omega, by have := Int.ediv_le_self n hm; omega⟩] at this
  exact this
theorem y_rem (hx : ρ.ev x = some (.int kd m)) (hy : ρ.ev y = some (.int kd n)) (h : 0 < n) (hm : 0 ≤ m) : Yd fr ds ρ L (.binOp .rem t x y t') ty (.int kd (m % n)) := by
  have := y_remw (fr := fr) (ds := ds) (L := L) (ty := ty) (t := t) (t' := t') hx hy (by omega)
  rw [Int.tmod_eq_emod_of_nonneg hm] at this
  exact this
theorem y_lss (hx : ρ.ev x = some (.int kd m)) (hy : ρ.ev y = some (.int kd n)) : Yd fr ds ρ L (.binOp .lss t x y t') ty (.bool (decide (m < n))) :=
  binOp_run hx hy fun w => by simp [eqGuard, Go.binOp, Op.intCmp]
theorem y_leq (hx : ρ.ev x = some (.int kd m)) (hy : ρ.ev y = some (.int kd n)) : Yd fr ds ρ L (.binOp .leq t x y t') ty (.bool (decide (m ≤ n))) :=
  binOp_run hx hy fun w => by simp [eqGuard, Go.binOp, Op.intCmp]
theorem y_gtr (hx : ρ.ev x = some (.int kd m)) (hy : ρ.ev y = some (.int kd n)) : Yd fr ds ρ L (.binOp .gtr t x y t') ty (.bool (decide (n < m))) :=
  binOp_run hx hy fun w => by simp [eqGuard, Go.binOp, Op.intCmp]
theorem y_geq (hx : ρ.ev x = some (.int kd m)) (hy : ρ.ev y = some (.int kd n)) : Yd fr ds ρ L (.binOp .geq t x y t') ty (.bool (decide (n ≤ m))) :=
  binOp_run hx hy fun w => by simp [eqGuard, Go.binOp, Op.intCmp]
theorem y_eql (hx : ρ.ev x = some (.int kd m)) (hy : ρ.ev y = some (.int kd n)) : Yd fr ds ρ L (.binOp .eql t x y t') ty (.bool (decide (m = n))) :=
  binOp_run hx hy fun w => by simp [eqGuard, Go.binOp, Op.intCmp]; rfl
theorem y_neq (hx : ρ.ev x = some (.int kd m)) (hy : ρ.ev y = some (.int kd n)) : Yd fr ds ρ L (.binOp .neq t x y t') ty (.bool (decide (m ≠ n))) :=
  binOp_run hx hy fun w => by simp [eqGuard, Go.binOp, Op.intCmp, bne]; rfl
theorem y_neg (hx : ρ.ev x = some (.int .i64 m)) (h : -9223372036854775808 ≤ -m ∧ -m ≤ 9223372036854775807) : Yd fr ds ρ L (.unOp .neg t x) ty (.int .i64 (-m)) :=
  exec_v (fun c e => by cases e) fun a w ha _ _ _ _ _ => by simp [execOp, ha.ev hx, Op.unary, Op.intArith, IntWalk.i64_in _ h]
theorem y_notp {p : Prop} [Decidable p] (hx : ρ.ev x = some (.bool (decide p))) : Yd fr ds ρ L (.unOp .not t x) ty (.bool (decide (¬ p))) :=
  exec_v (fun c e => by cases e) fun a w ha _ _ _ _ _ => by simp [execOp, ha.ev hx, Op.unary]
theorem y_notT (hx : ρ.ev x = some (.bool true)) : Yd fr ds ρ L (.unOp .not t x) ty (.bool false) :=
  exec_v (fun c e => by cases e) fun a w ha _ _ _ _ _ => by simp [execOp, ha.ev hx, Op.unary]
theorem y_notF (hx : ρ.ev x = some (.bool false)) : Yd fr ds ρ L (.unOp .not t x) ty (.bool true) :=
  exec_v (fun c e => by cases e) fun a w ha _ _ _ _ _ => by simp [execOp, ha.ev hx, Op.unary]
theorem y_notb {b : Bool} (hx : ρ.ev x = some (.bool b)) : Yd fr ds ρ L (.unOp .not t x) ty (.bool (!b)) :=
  exec_v (fun c e => by cases e) fun a w ha _ _ _ _ _ => by simp [execOp, ha.ev hx, Op.unary]
end ints
theorem max2i (k : IntKind) (m n : Int) (w : World) : (Builtin.max2 (.int k m) (.int k n)).run P w = .ok (.int k (max m n)) w := by
  unfold Builtin.max2
  by_cases h : n > m
  · simp [h, show max m n = n from by omega]
  · simp [h, show max m n = m from by omega]
theorem y_max {t1 : Array TypeId} {x y : Operand} {kd : IntKind} {m n : Int} (hx : ρ.ev x = some (.int kd m)) (hy : ρ.ev y = some (.int kd n)) :
    Yd fr ds ρ L (.call ⟨.builtin .max, #[x, y], t1⟩) ty (.int kd (max m n)) :=
  exec_v (fun c e => by cases e) fun a w ha _ _ _ _ _ => by
    simp [execOp, resolve, invoke, builtin, Builtin.max_, ha.ev hx, ha.ev hy, max2i]
theorem min2i (k : IntKind) (m n : Int) (w : World) : (Builtin.min2 (.int k m) (.int k n)).run P w = .ok (.int k (min m n)) w := by
  unfold Builtin.min2
  by_cases h : n < m
  · simp [h, show min m n = n from by omega]
  · simp [h, show min m n = m from by omega]
theorem y_min {t1 : Array TypeId} {x y : Operand} {kd : IntKind} {m n : Int} (hx : ρ.ev x = some (.int kd m)) (hy : ρ.ev y = some (.int kd n)) :
    Yd fr ds ρ L (.call ⟨.builtin .min, #[x, y], t1⟩) ty (.int kd (min m n)) :=
  exec_v (fun c e => by cases e) fun a w ha _ _ _ _ _ => by
    simp [execOp, resolve, invoke, builtin, Builtin.min_, ha.ev hx, ha.ev hy, min2i]

/-! ### Places -/
theorem Ty.of_sl {d : TypeDesc} {e : TypeId} (h : Ty.of d = .sl e) : d = .slice e := by cases d <;> simp [Ty.of] at h <;> simp [h]
theorem Ty.of_ar {d : TypeDesc} {n e : Nat} (h : Ty.of d = .ar n e) : d = .array n e := by cases d <;> simp [Ty.of] at h <;> simp [h]
theorem Ty.of_mp {d : TypeDesc} {n e : Nat} (h : Ty.of d = .mp n e) : d = .map n e := by cases d <;> simp [Ty.of] at h <;> simp [h]
theorem Ty.of_st {d : TypeDesc} {fs : List (Nat × TypeId)} (h : Ty.of d = .st fs) : ∃ f, d = .struct f ∧ fs = f.toList.map fun f => (f.offset, f.type) := by cases d <;> simp [Ty.of] at h <;> simp [h]
theorem Ty.of_int {d : TypeDesc} {k : IntKind} (h : Ty.of d = .int k) : d = .int k := by cases d <;> simp [Ty.of] at h <;> simp [h]
theorem Ty.of_bool {d : TypeDesc} (h : Ty.of d = .bool) : d = .bool := by cases d <;> simp [Ty.of] at h <;> rfl
theorem run_underlying {t : TypeId} {d : TypeDesc} {w : World} (h : P.underlying t = some d) : (underlying t).run P w = .ok d w := by simp [underlying, h]
theorem run_sizeOf {t : TypeId} {i : TI} {w : World} (h : TI.of P t = some i) : (sizeOf t).run P w = .ok i.size w := by
  obtain ⟨d, inf, z, h1, h2, h3, h4, h5, h6, h7⟩ := TI.of_spec h
  simp [sizeOf, typeInfo, h2, h5]
theorem run_isAgg {t : TypeId} {i : TI} {w : World} (h : TI.of P t = some i) : (isAgg t).run P w = .ok i.ty.agg w := by
  obtain ⟨d, inf, z, h1, h2, h3, h4, h5, h6, h7⟩ := TI.of_spec h
  rw [← h4]
  simp only [isAgg, Sem.run_bind, run_underlying h1, Result.andThen_ok]
  cases d <;> rfl
theorem y_fieldAddr {s : TypeId} {x : Operand} {f off : Nat} {ft : TypeId} {fs : List (Nat × TypeId)} {i : TI} {jt : Ty} {jz jb : Nat} {jv : List Value} {ad : Addr} (hx : ρ.ev x = some (.pointer (some ad))) (hs : fr.X.tab[s]? = some (some i))
    (hi : i.ty = .st fs) (hf : fs[f]? = some (off, ft)) (hj : fr.X.tab[ft]? = some (some ⟨jt, jz, jb, jv⟩)) (hz : Nat.beq jz 0 = false) : Yd fr ds ρ L (.fieldAddr s x f) ty (.pointer (some (ad.add off))) :=
  exec_v (fun c e => by cases e) fun a w ha _ _ _ _ _ => by
    obtain ⟨d, inf, z, h1, h2, h3, h4, h5, h6, h7⟩ := TI.of_spec (fr.X.ti hs)
    rw [hi] at h4
    obtain ⟨g, rfl, hg⟩ := Ty.of_st h4
    rw [hg] at hf
    have hsz := run_sizeOf (w := w) (fr.X.ti hj)
    have hz' : jz ≠ 0 := fun e => by rw [e] at hz; cases hz
    simp only [List.getElem?_map, Option.map_eq_some_iff] at hf
    obtain ⟨fd, hfd, he⟩ := hf
    cases he
    have hfd' : g[f]? = some fd := by rw [← Array.getElem?_toList]; exact hfd
    simp [execOp, ha.ev hx, Instr.fieldAt, run_underlying h1, hfd', Instr.sureAddr, fieldPlace, hsz, hz']
theorem addr_add {b o j : Nat} : (⟨b, o, none⟩ : Addr).add j = ⟨b, o + j, none⟩ := by
  unfold Addr.add; split
  · rename_i h; rw [h]; rfl
  · rfl
theorem y_fieldAddrB {s : TypeId} {x : Operand} {f off b o : Nat} {ft : TypeId} {fs : List (Nat × TypeId)} {i : TI} {jt : Ty} {jz jb : Nat} {jv : List Value} (hx : ρ.ev x = some (.pointer (some ⟨b, o, none⟩))) (hs : fr.X.tab[s]? = some (some i))
    (hi : i.ty = .st fs) (hf : fs[f]? = some (off, ft)) (hj : fr.X.tab[ft]? = some (some ⟨jt, jz, jb, jv⟩)) (hz : Nat.beq jz 0 = false) : Yd fr ds ρ L (.fieldAddr s x f) ty (.pointer (some ⟨b, o + off, none⟩)) := by
  rw [← addr_add]; exact y_fieldAddr hx hs hi hf hj hz
theorem y_indexAddr {t e : TypeId} {x ix : Operand} {i : TI} {jt : Ty} {jz jb : Nat} {jv : List Value} {A : Option Addr} {ad : Addr} {n c : Nat} {kd : IntKind} {q : Int} (hx : ρ.ev x = some (.slice A n c)) (hix : ρ.ev ix = some (.int kd q)) (hs : fr.X.tab[t]? = some (some i))
    (hi : i.ty = .sl e) (hj : fr.X.tab[e]? = some (some ⟨jt, jz, jb, jv⟩)) (h0 : 0 ≤ q) (h1 : q < n) (hA : A = some ad) : Yd fr ds ρ L (.indexAddr t x ix) ty (.pointer (some (ad.add (q.toNat * jz)))) :=
  exec_v (fun c e => by cases e) fun a w ha _ _ _ _ _ => by
    obtain ⟨d, inf, z, g1, g2, g3, g4, g5, g6, g7⟩ := TI.of_spec (fr.X.ti hs)
    rw [hi] at g4
    have := Ty.of_sl g4
    subst this
    have hsz := run_sizeOf (w := w) (fr.X.ti hj)
    subst hA
    simp [execOp, ha.ev hx, ha.ev hix, Instr.indexAt, run_underlying g1, asIntOf, h0, h1, hsz]
theorem y_indexAddrA {t e : TypeId} {x ix : Operand} {i : TI} {jt : Ty} {jz jb : Nat} {jv : List Value} {ad : Addr} {n : Nat} {kd : IntKind} {q : Int} (hx : ρ.ev x = some (.pointer (some ad))) (hix : ρ.ev ix = some (.int kd q)) (hs : fr.X.tab[t]? = some (some i))
    (hi : i.ty = .ar n e) (hj : fr.X.tab[e]? = some (some ⟨jt, jz, jb, jv⟩)) (h0 : 0 ≤ q) (h1 : q < n) : Yd fr ds ρ L (.indexAddr t x ix) ty (.pointer (some (ad.add (q.toNat * jz)))) :=
  exec_v (fun c e => by cases e) fun a w ha _ _ _ _ _ => by
    obtain ⟨d, inf, z, g1, g2, g3, g4, g5, g6, g7⟩ := TI.of_spec (fr.X.ti hs)
    rw [hi] at g4
    have := Ty.of_ar g4
    subst this
    have hsz := run_sizeOf (w := w) (fr.X.ti hj)
    simp [execOp, ha.ev hx, ha.ev hix, Instr.indexAt, run_underlying g1, asIntOf, h0, h1, hsz, Instr.sureAddr]
theorem y_extract {x : Operand} {ix : Nat} {vs : List Value} {v : Value} (hx : ρ.ev x = some (.tuple vs.toArray)) (hv : vs[ix]? = some v) : Yd fr ds ρ L (.extract x ix) ty v :=
  exec_v (fun c e => by cases e) fun a w ha _ _ _ _ _ => by simp [execOp, ha.ev hx, Instr.extract, hv]
theorem y_lenS {t1 : TypeId} {x : Operand} {A : Option Addr} {n c : Nat} {i : TI} {e : TypeId} (hx : ρ.ev x = some (.slice A n c)) (ht : fr.X.tab[t1]? = some (some i)) (hi : i.ty = .sl e) :
    Yd fr ds ρ L (.call ⟨.builtin .len, #[x], #[t1]⟩) ty (.int .i64 n) :=
  exec_v (fun c e => by cases e) fun a w ha _ _ _ _ _ => by
    obtain ⟨d, inf, z, g1, g2, g3, g4, g5, g6, g7⟩ := TI.of_spec (fr.X.ti ht)
    rw [hi] at g4
    have := Ty.of_sl g4
    subst this
    simp [execOp, resolve, invoke, builtin, Builtin.len_, ha.ev hx, run_underlying g1, goInt]

/-! ### Loads -/
theorem loadCells_at {ad : Addr} {vs : List Value} {w : World} (h : ∀ j v, vs[j]? = some v → w.cell? (ad.add j) = some v) : (loadCells ad vs.length).run P w = .ok vs.toArray w :=
  run_loadCells_list _ ad vs h
/-- A load of one cell. -/
theorem y_load1 {t : TypeId} {x : Operand} {i : TI} {ad : Addr} {v : Value} (hx : ρ.ev x = some (.pointer (some ad))) (ht : fr.X.tab[t]? = some (some i)) (hi : i.ty.agg = false)
    (hv : ∀ w, Sat fr.base fr.M L w → w.cell? ad = some v) : Yd fr ds ρ L (.load t x) ty v :=
  exec_v (fun c e => by cases e) fun a w ha hw _ _ _ _ => by
    have := run_isAgg (w := w) (fr.X.ti ht)
    simp [execOp, ha.ev hx, Instr.loadAt, Instr.sureAddr, loadVar, this, hi, load, Sem.run, hv w hw]
/-- A load of a struct or an array. -/
theorem y_loadN {t : TypeId} {x : Operand} {i : TI} {ad : Addr} {vs : List Value} (hx : ρ.ev x = some (.pointer (some ad))) (ht : fr.X.tab[t]? = some (some i)) (hi : i.ty.agg = true) (hn : vs.length = i.size)
    (hv : ∀ w, Sat fr.base fr.M L w → ∀ j v, vs[j]? = some v → w.cell? (ad.add j) = some v) : Yd fr ds ρ L (.load t x) ty (.agg vs.toArray) :=
  exec_v (fun c e => by cases e) fun a w ha hw _ _ _ _ => by
    have h1 := run_isAgg (w := w) (fr.X.ti ht)
    have h2 := run_sizeOf (w := w) (fr.X.ti ht)
    have h3 := loadCells_at (P := P) (hv w hw)
    rw [hn] at h3
    simp [execOp, ha.ev hx, Instr.loadAt, Instr.sureAddr, loadVar, h1, h2, hi, h3]

/-- Old memory that nobody owns reads as it did. -/
theorem Sat.old {base : World} {M : Nat → Prop} {w : World} (h : Sat base M L w) {ad : Addr} {v : Value} (hc : base.cell? ad = some v) (hM : ¬ M ad.block) : w.cell? ad = some v := by
  have hb : ad.block < base.heap.size := World.block_lt_of_cell? _ _ hc
  rw [World.cell?_of_block (h.since.block _ hb hM)]; exact hc
/-- What is owned, by its place in the list. -/
theorem Sat.has {base : World} {M : Nat → Prop} {w : World} (h : Sat base M L w) {A : HP} (hA : A ∈ L) : ∃ k : Hp, A k ∧ k.In w := by
  obtain ⟨L1, L2, rfl⟩ := List.append_of_mem hA
  have h' := h.perm (List.perm_middle)
  obtain ⟨k, ⟨h1, h2, a, _, d, rfl⟩, i, _⟩ := h'.hp
  exact ⟨h1, a, fun b o e => i b o (Hp.add_left e)⟩
/-- Cells of the call's own. -/
def cb (b : Nat) (T : TypeId) (l : List Value) : HP := pt b (.cells l.toArray T (0, 0))
theorem Sat.cbAt {base : World} {M : Nat → Prop} {w : World} (h : Sat base M L w) {b : Nat} {T : TypeId} {l : List Value} (hA : cb b T l ∈ L) : w.heap[b]? = some (.cells l.toArray T (0, 0)) := by
  obtain ⟨k, rfl, i⟩ := h.has hA
  exact i b _ (by simp [Hp.one])
theorem Sat.cbcell {base : World} {M : Nat → Prop} {w : World} (h : Sat base M L w) {b : Nat} {T : TypeId} {l : List Value} (hA : cb b T l ∈ L) {o : Nat} {v : Value} (hv : l[o]? = some v) : w.cell? ⟨b, o, none⟩ = some v := by
  simp [World.cell?, h.cbAt hA, hv]
/-- Which of the list: found by Lean's own search. -/
class Has (A : HP) (L : List HP) : Prop where
  mem : A ∈ L
class HasB (b : Nat) (T : outParam TypeId) (l : outParam (List Value)) (L : List HP) : Prop where
  mem : cb b T l ∈ L
instance (b : Nat) (T : TypeId) (l : List Value) (L : List HP) : HasB b T l (cb b T l :: L) := ⟨List.mem_cons_self⟩
instance (priority := low) (b : Nat) (T : TypeId) (l : List Value) (A : HP) (L : List HP) [h : HasB b T l L] : HasB b T l (A :: L) := ⟨List.mem_cons_of_mem _ h.mem⟩
theorem y_ld {t : TypeId} {x : Operand} {i : TI} {b o : Nat} {v : Value} {T : TypeId} {l : List Value} (hx : ρ.ev x = some (.pointer (some ⟨b, o, none⟩))) [hm : HasB b T l L] (ht : fr.X.tab[t]? = some (some i)) (hi : i.ty.agg = false)
    (hv : l[o]? = some v) : Yd fr ds ρ L (.load t x) ty v :=
  y_load1 hx ht hi fun _ hw => hw.cbcell hm.mem hv
theorem take_get {l : List Value} {o n j : Nat} {v : Value} (h : ((l.drop o).take n)[j]? = some v) : l[o + j]? = some v := by
  rw [List.getElem?_take] at h
  split at h
  · rw [List.getElem?_drop] at h; exact h
  · cases h
theorem y_ldN {t : TypeId} {x : Operand} {it : Ty} {iz ib : Nat} {iv : List Value} {b o : Nat} {T : TypeId} {l : List Value} (hx : ρ.ev x = some (.pointer (some ⟨b, o, none⟩))) [hm : HasB b T l L] (ht : fr.X.tab[t]? = some (some ⟨it, iz, ib, iv⟩)) (hi : it.agg = true)
    (hn : ((l.drop o).take iz).length = iz) : Yd fr ds ρ L (.load t x) ty (.agg ((l.drop o).take iz).toArray) :=
  y_loadN hx ht hi hn fun _ hw j v hj => by
    rw [addr_add]
    exact hw.cbcell hm.mem (take_get hj)
/-- One cell of old memory. -/
theorem y_ldo {t : TypeId} {x : Operand} {i : TI} {ad : Addr} {v : Value} (hx : ρ.ev x = some (.pointer (some ad))) (ht : fr.X.tab[t]? = some (some i)) (hi : i.ty.agg = false) (hc : fr.base.cell? ad = some v) (hM : ¬ fr.M ad.block) :
    Yd fr ds ρ L (.load t x) ty v := y_load1 hx ht hi fun _ hw => hw.old hc hM

/-! ### Old rows of whole numbers -/
/-- A row of numbers, read in a world. -/
def RdI (w : World) (A : Option Addr) (xs : List Int) : Prop := ∀ i, i < xs.length → ∃ ad, A = some ad ∧ w.cell? (ad.add i) = some (.int .i64 (xs.getD i 0))
/-- .. and in every world that comes of it. -/
def KI (base : World) (M : Nat → Prop) (A : Option Addr) (xs : List Int) : Prop := ∀ w, Since base M w → RdI w A xs
theorem Since.old {base w : World} {M : Nat → Prop} (h : Since base M w) {ad : Addr} {v : Value} (hc : base.cell? ad = some v) (hM : ¬ M ad.block) : w.cell? ad = some v := by
  have hb : ad.block < base.heap.size := World.block_lt_of_cell? _ _ hc
  rw [World.cell?_of_block (h.block _ hb hM)]; exact hc
theorem addr_add_block (ad : Addr) (j : Nat) : (ad.add j).block = ad.block := by unfold Addr.add; split <;> rfl
theorem RdI.kept {base : World} {M : Nat → Prop} {A : Option Addr} {xs : List Int} (h : RdI base A xs) (hM : ∀ ad, A = some ad → ¬ M ad.block) : KI base M A xs := fun w hw i hi => by
  obtain ⟨ad, hA, hc⟩ := h i hi
  exact ⟨ad, hA, hw.old hc (by rw [addr_add_block]; exact hM ad hA)⟩
theorem RdI.keep {base : World} {A : Option Addr} {xs : List Int} (h : RdI base A xs) : KI base noM A xs := h.kept fun _ _ x => x
theorem y_ixD {t e : TypeId} {x ix : Operand} {i : TI} {jt : Ty} {jz jb : Nat} {jv : List Value} {A : Option Addr} {n c : Nat} {kd : IntKind} {q : Int} (hx : ρ.ev x = some (.slice A n c)) (hix : ρ.ev ix = some (.int kd q)) (hs : fr.X.tab[t]? = some (some i))
    (hi : i.ty = .sl e) (hj : fr.X.tab[e]? = some (some ⟨jt, jz, jb, jv⟩)) (h0 : 0 ≤ q) (h1 : q < n) (hA : A.isSome = true) : Yd fr ds ρ L (.indexAddr t x ix) ty (.pointer (some ((A.getD default).add (q.toNat * jz)))) := by
  obtain ⟨ad, rfl⟩ := Option.isSome_iff_exists.1 hA
  exact y_indexAddr hx hix hs hi hj h0 h1 rfl
theorem KI.some {base : World} {M : Nat → Prop} {A : Option Addr} {xs : List Int} (h : KI base M A xs) {q : Int} (h0 : 0 ≤ q) (h1 : q < xs.length) : A.isSome = true := by
  obtain ⟨ad, rfl, _⟩ := h base (Since.refl _ _) q.toNat (by omega)
  rfl
/-- Both at once: the place of an element of an old row of numbers, its load. -/
theorem y_ixI {t e : TypeId} {x ix : Operand} {i : TI} {jt : Ty} {jz jb : Nat} {jv : List Value} {A : Option Addr} {n c : Nat} {kd : IntKind} {q : Int} {xs : List Int} (hx : ρ.ev x = some (.slice A n c)) (hix : ρ.ev ix = some (.int kd q)) (hs : fr.X.tab[t]? = some (some i))
    (hi : i.ty = .sl e) (hj : fr.X.tab[e]? = some (some ⟨jt, jz, jb, jv⟩)) (hr : KI fr.base fr.M A xs) (hn : n = xs.length) (h0 : 0 ≤ q) (h1 : q < n) : Yd fr ds ρ L (.indexAddr t x ix) ty (.pointer (some ((A.getD default).add (q.toNat * jz)))) :=
  y_ixD hx hix hs hi hj h0 h1 (hr.some h0 (hn ▸ h1))
theorem y_ldI {t : TypeId} {x : Operand} {i : TI} {A : Option Addr} {sz : Nat} {q : Int} {xs : List Int} (hx : ρ.ev x = some (.pointer (some ((A.getD default).add (q.toNat * sz))))) (ht : fr.X.tab[t]? = some (some i)) (hi : i.ty.agg = false)
    (h1 : Nat.beq sz 1 = true) (hr : KI fr.base fr.M A xs) (h0 : 0 ≤ q) (hq : q < xs.length) : Yd fr ds ρ L (.load t x) ty (.int .i64 (xs.getD q.toNat 0)) :=
  y_load1 hx ht hi fun w hw => by
    have e : sz = 1 := Nat.eq_of_beq_eq_true h1
    subst e
    obtain ⟨ad, rfl, hc⟩ := hr w hw.since q.toNat (by omega)
    simpa using hc
theorem y_ldK {t : TypeId} {x : Operand} {i : TI} {A : Option Addr} {sz : Nat} {q : Nat} {xs : List Int} (hx : ρ.ev x = some (.pointer (some ((A.getD default).add ((q : Int).toNat * sz))))) (ht : fr.X.tab[t]? = some (some i)) (hi : i.ty.agg = false)
    (h1 : Nat.beq sz 1 = true) (hr : KI fr.base fr.M A xs) (hq : q < xs.length) : Yd fr ds ρ L (.load t x) ty (.int .i64 (xs.getD q 0)) :=
  y_ldI (q := (q : Int)) hx ht hi h1 hr (Int.natCast_nonneg q) (by omega)
theorem res_tmp {fn : Func} {t : Nat} {v : Value} (h : fn.results = #[.tmp t]) (hv : ρ.get t = some v) : Res fr ds ρ L fn v := fun a w ha _ => by
  rw [results_tmp h, ha.get t v hv]
theorem res_tmp2 {fn : Func} {t u : Nat} {v v' : Value} (h : fn.results = #[.tmp t, .tmp u]) (hv : ρ.get t = some v) (hu : ρ.get u = some v') : Res fr ds ρ L fn (.tuple #[v, v']) := fun a w ha _ => by
  rw [results_tmp2 h, ha.get t v hv, ha.get u v' hu]
end
end Go.E

/- The proof kit 'E', part 4: operations that make or write memory: new blocks, stores, append. -/
namespace Go.E
open Go Go.RowKit
section
variable {P : Program} {fr : Fr P} {ds : List Deferred} {ρ : Env} {L : List HP} {k : List It} {ty : TypeId} {all : Array Oper} {rest : List Oper} {d : Nat} {pos : String} {af : Array Edge}

theorem run_zero {t : TypeId} {i : TI} {w : World} (h : TI.of P t = some i) : ∃ z, (zeroValue t).run P w = .ok z w ∧ z.cells.toList = i.zero := by
  obtain ⟨d, inf, z, h1, h2, h3, h4, h5, h6, h7⟩ := TI.of_spec h
  exact ⟨z, by simp [zeroValue, typeInfo, h2, h3], h7⟩
theorem run_info {t : TypeId} {i : TI} {w : World} (h : TI.of P t = some i) : ∃ inf : TypeInfo, (typeInfo t).run P w = .ok inf w ∧ P.info? t = some inf ∧ inf.bytes = i.bytes ∧ inf.size = i.size := by
  obtain ⟨d, inf, z, h1, h2, h3, h4, h5, h6, h7⟩ := TI.of_spec h
  exact ⟨inf, by simp [typeInfo, h2], h2, h6, h5⟩

def Value.one : Value → Bool
  | .agg _ => false
  | .tuple _ => false
  | _ => true
theorem one_cell {v : Value} (h : Value.one v = true) : v.cells = #[v] := by cases v <;> first | rfl | cases h
theorem s_alloc {t : TypeId} {it : Ty} {iz ib : Nat} {iv : List Value} (ht : fr.X.tab[t]? = some (some ⟨it, iz, ib, iv⟩)) (hd : Nat.ble (d + 1) fr.n = true)
    (h : ∀ b, J fr ds ((d, .pointer (some ⟨b, 0, none⟩)) :: ρ) (cb b t iv :: L) (.ops all rest :: k)) : J fr ds ρ L (.ops all (⟨some d, .alloc t, ty, pos, af, none⟩ :: rest) :: k) :=
  s_eff (fun c e => by cases e) hd fun a w ha hw o ho _ => by
    obtain ⟨z, hz, hl⟩ := run_zero (w := w) (fr.X.ti ht)
    simp only at hl
    refine ⟨.pointer (some ⟨w.heap.size, 0, none⟩), w.alloc (.cells z.cells t (0, 0)), cb w.heap.size t iv :: L, ?_, ?_, h _⟩
    · unfold execOp; rw [ho]; simp [Instr.alloc, hz, newVar, newRow]
    · have := hw.alloc (.cells z.cells t (0, 0))
      rw [show z.cells = iv.toArray from by rw [← hl]] at this
      rw [show z.cells = iv.toArray from by rw [← hl]]
      exact this
theorem s_box {t : TypeId} {x : Operand} {v : Value} (hx : ρ.ev x = some v) (hd : Nat.ble (d + 1) fr.n = true)
    (h : ∀ b, J fr ds ((d, .pointer (some ⟨b, 0, none⟩)) :: ρ) (cb b t v.cells.toList :: L) (.ops all rest :: k)) : J fr ds ρ L (.ops all (⟨some d, .box t x, ty, pos, af, none⟩ :: rest) :: k) :=
  s_eff (fun c e => by cases e) hd fun a w ha hw o ho _ => by
    refine ⟨.pointer (some ⟨w.heap.size, 0, none⟩), w.alloc (.cells v.cells t (0, 0)), cb w.heap.size t v.cells.toList :: L, ?_, ?_, h _⟩
    · unfold execOp; rw [ho]; simp [Instr.box, newVar, newRow, ha.ev hx]
    · have := hw.alloc (.cells v.cells t (0, 0))
      unfold cb
      rw [Array.toArray_toList]
      exact this

theorem s_box1 {t : TypeId} {x : Operand} {v : Value} (hx : ρ.ev x = some v) (hv : Value.one v = true) (hd : Nat.ble (d + 1) fr.n = true)
    (h : ∀ b, J fr ds ((d, .pointer (some ⟨b, 0, none⟩)) :: ρ) (cb b t [v] :: L) (.ops all rest :: k)) : J fr ds ρ L (.ops all (⟨some d, .box t x, ty, pos, af, none⟩ :: rest) :: k) :=
  s_box hx hd fun b => by rw [one_cell hv]; exact h b
theorem s_boxA {t : TypeId} {x : Operand} {vs : List Value} (hx : ρ.ev x = some (.agg vs.toArray)) (hd : Nat.ble (d + 1) fr.n = true)
    (h : ∀ b, J fr ds ((d, .pointer (some ⟨b, 0, none⟩)) :: ρ) (cb b t vs :: L) (.ops all rest :: k)) : J fr ds ρ L (.ops all (⟨some d, .box t x, ty, pos, af, none⟩ :: rest) :: k) :=
  s_box hx hd fun b => h b

/-! ### Stores -/
class UpdB (b : Nat) (T : outParam TypeId) (l : outParam (List Value)) (L : List HP) (rem : outParam (List HP)) : Prop where
  perm : L.Perm (cb b T l :: rem)
instance (b : Nat) (T : TypeId) (l : List Value) (L : List HP) : UpdB b T l (cb b T l :: L) L := ⟨List.Perm.refl _⟩
instance (priority := low) (b : Nat) (T : TypeId) (l : List Value) (A : HP) (L rem : List HP) [h : UpdB b T l L rem] : UpdB b T l (A :: L) (A :: rem) :=
  ⟨(List.Perm.cons A h.perm).trans (List.Perm.swap _ _ _)⟩
theorem setCell_heap {w : World} {b o : Nat} {l : List Value} {T : TypeId} {v : Value} (h : w.heap[b]? = some (.cells l.toArray T (0, 0))) :
    (w.setCell ⟨b, o, none⟩ v).heap[b]? = some (.cells (l.set o v).toArray T (0, 0)) := by
  obtain ⟨hlt, hk⟩ := Array.getElem?_eq_some_iff.1 h
  simp only [World.setCell]
  rw [Array.getElem?_eq_getElem (by simpa using hlt), Array.getElem_modify_self, hk]
  simp
theorem Sat.set {base : World} {M : Nat → Prop} {b : Nat} {T : TypeId} {l : List Value} {w : World} (h : Sat base M (cb b T l :: L) w) (o : Nat) (v : Value) : Sat base M (cb b T (l.set o v) :: L) (w.setCell ⟨b, o, none⟩ v) :=
  h.turn (setCell_heap h.at) (fun k hk => Below.heap_setCell w _ v k hk) (by simp) rfl rfl rfl
theorem run_store1 {w : World} {b o : Nat} {l : List Value} {T : TypeId} {v : Value} (h : w.heap[b]? = some (.cells l.toArray T (0, 0))) (ho : o < l.length) (hv : Value.one v = true) :
    (store ⟨b, o, none⟩ v).run P w = .ok () (w.setCell ⟨b, o, none⟩ v) := by
  have hc : w.cell? ⟨b, o, none⟩ = some l[o] := by simp [World.cell?, h, ho]
  have hf : w.frozen? ⟨b, o, none⟩ = false := by simp [World.frozen?, h]
  cases v <;> first | (cases hv; done) | simp [store, Sem.run, hc, hf]
theorem s_store {t : TypeId} {x y : Operand} {it : Ty} {ib : Nat} {iv : List Value} {b o : Nat} {T : TypeId} {l : List Value} {rem : List HP} {v : Value} (hx : ρ.ev x = some (.pointer (some ⟨b, o, none⟩))) (hy : ρ.ev y = some v) [hm : UpdB b T l L rem]
    (ht : fr.X.tab[t]? = some (some ⟨it, 1, ib, iv⟩)) (hv : Value.one v = true) (ho : Nat.ble (o + 1) l.length = true)
    (h : J fr ds ρ (cb b T (l.set o v) :: rem) (.ops all rest :: k)) : J fr ds ρ L (.ops all (⟨none, .store t x y, ty, pos, af, none⟩ :: rest) :: k) :=
  s_eff0 (fun c e => by cases e) fun a w ha hw o' hop _ => by
    have hw' := hw.perm hm.perm
    have hsz := run_sizeOf (w := w) (fr.X.ti ht)
    refine ⟨.skip, w.setCell ⟨b, o, none⟩ v, cb b T (l.set o v) :: rem, ?_, .inl rfl, hw'.set o v, h⟩
    have hst := run_store1 (P := P) (o := o) hw'.at (Nat.le_of_ble_eq_true ho) hv
    unfold execOp; rw [hop]
    simp [ha.ev hx, ha.ev hy, Instr.storeAt, Instr.sureAddr, storeVar, hsz, one_cell hv, storeCells, hst, addr_add]

/-- One element of a row that is written out. -/
class SetV (l : List Value) (o : Nat) (v : Value) (l' : outParam (List Value)) : Prop where
  eq : l.set o v = l'
instance (a v : Value) (l : List Value) : SetV (a :: l) 0 v (v :: l) := ⟨rfl⟩
instance (a v : Value) (l l' : List Value) (o : Nat) [h : SetV l o v l'] : SetV (a :: l) (o + 1) v (a :: l') := ⟨by rw [List.set_cons_succ, h.eq]⟩
theorem s_storeC {t : TypeId} {x y : Operand} {it : Ty} {ib : Nat} {iv : List Value} {b o : Nat} {T : TypeId} {l l' : List Value} {rem : List HP} {v : Value} (hx : ρ.ev x = some (.pointer (some ⟨b, o, none⟩))) (hy : ρ.ev y = some v) [hm : UpdB b T l L rem] [hs : SetV l o v l']
    (ht : fr.X.tab[t]? = some (some ⟨it, 1, ib, iv⟩)) (hv : Value.one v = true) (ho : Nat.ble (o + 1) l.length = true)
    (h : J fr ds ρ (cb b T l' :: rem) (.ops all rest :: k)) : J fr ds ρ L (.ops all (⟨none, .store t x y, ty, pos, af, none⟩ :: rest) :: k) :=
  s_store hx hy ht hv ho (by rw [hs.eq]; exact h)
/-- A struct's or an array's store: cell by cell. -/
def setAll (l : List Value) (o : Nat) : List Value → List Value
  | [] => l
  | v :: vs => setAll (l.set o v) (o + 1) vs
theorem setAll_length : ∀ (vs : List Value) (l : List Value) (o : Nat), (setAll l o vs).length = l.length
  | [], _, _ => rfl
  | v :: vs, l, o => by rw [setAll, setAll_length vs]; simp
theorem run_storeAll {base : World} {M : Nat → Prop} {b : Nat} {T : TypeId} {R : List HP} : ∀ (vs : List Value) (l : List Value) (o i : Nat) (w : World), Sat base M (cb b T l :: R) w → o + i + vs.length ≤ l.length → (∀ v ∈ vs, Value.one v = true) →
    ∃ w', (storeCells ⟨b, o, none⟩ vs i).run P w = .ok () w' ∧ Sat base M (cb b T (setAll l (o + i) vs) :: R) w'
  | [], l, o, i, w, hw, _, _ => ⟨w, by simp [storeCells], hw⟩
  | v :: vs, l, o, i, w, hw, hl, h1 => by
    simp only [List.length_cons] at hl
    have hst := run_store1 (P := P) (o := o + i) hw.at (by omega) (h1 v List.mem_cons_self)
    obtain ⟨w', hr, hs⟩ := run_storeAll vs (l.set (o + i) v) o (i + 1) _ (hw.set (o + i) v) (by simp; omega) (fun u hu => h1 u (List.mem_cons_of_mem _ hu))
    refine ⟨w', ?_, hs⟩
    simp [storeCells, addr_add, hst, hr]
theorem s_storeN {t : TypeId} {x y : Operand} {it : Ty} {iz ib : Nat} {iv : List Value} {b o : Nat} {T : TypeId} {l : List Value} {rem : List HP} {vs : List Value} (hx : ρ.ev x = some (.pointer (some ⟨b, o, none⟩))) (hy : ρ.ev y = some (.agg vs.toArray)) [hm : UpdB b T l L rem]
    (ht : fr.X.tab[t]? = some (some ⟨it, iz, ib, iv⟩)) (hn : vs.length = iz) (hv : vs.all Value.one = true) (ho : Nat.ble (o + iz) l.length = true)
    (h : J fr ds ρ (cb b T (setAll l o vs) :: rem) (.ops all rest :: k)) : J fr ds ρ L (.ops all (⟨none, .store t x y, ty, pos, af, none⟩ :: rest) :: k) :=
  s_eff0 (fun c e => by cases e) fun a w ha hw o' hop _ => by
    have hw' := hw.perm hm.perm
    have hsz := run_sizeOf (w := w) (fr.X.ti ht)
    obtain ⟨w', hr, hs⟩ := run_storeAll (P := P) vs l o 0 w hw' (by have := Nat.le_of_ble_eq_true ho; omega) (by simpa using hv)
    refine ⟨.skip, w', cb b T (setAll l o vs) :: rem, ?_, .inl rfl, hs, h⟩
    unfold execOp; rw [hop]
    simp [ha.ev hx, ha.ev hy, Instr.storeAt, Instr.sureAddr, storeVar, hsz, Value.cells, hn, hr]

theorem setAll_at (vs : List Value) : ∀ (l : List Value) (o : Nat), o + vs.length ≤ l.length → setAll l o vs = l.take o ++ vs ++ l.drop (o + vs.length) := by
  induction vs with
  | nil => intro l o _; simp [setAll]
  | cons v vs ih =>
    intro l o h
    simp only [List.length_cons] at h
    rw [setAll, ih _ _ (by simp; omega)]
    have h1 : (l.set o v).take (o + 1) = l.take o ++ [v] := by
      rw [List.take_set, List.take_succ_eq_append_getElem (by omega), List.set_append]
      have : (l.take o).length = o := by simp; omega
      simp [this]
    have h2 : (l.set o v).drop (o + 1 + vs.length) = l.drop (o + 1 + vs.length) := by rw [List.drop_set]; rw [if_pos (by omega)]
    rw [h1, h2]
    simp [Nat.add_assoc, Nat.add_comm 1]
theorem setAll_whole (vs l : List Value) (h : vs.length = l.length) : setAll l 0 vs = vs := by
  rw [setAll_at vs l 0 (by omega)]; simp [h]
/-- .. of the whole block. -/
theorem s_storeW {t : TypeId} {x y : Operand} {it : Ty} {iz ib : Nat} {iv : List Value} {b : Nat} {T : TypeId} {l : List Value} {rem : List HP} {vs : List Value} (hx : ρ.ev x = some (.pointer (some ⟨b, 0, none⟩))) (hy : ρ.ev y = some (.agg vs.toArray)) [hm : UpdB b T l L rem]
    (ht : fr.X.tab[t]? = some (some ⟨it, iz, ib, iv⟩)) (hn : vs.length = iz) (hv : vs.all Value.one = true) (hl : l.length = iz)
    (h : J fr ds ρ (cb b T vs :: rem) (.ops all rest :: k)) : J fr ds ρ L (.ops all (⟨none, .store t x y, ty, pos, af, none⟩ :: rest) :: k) :=
  s_storeN hx hy ht hn hv (by rw [Nat.zero_add, hl]; exact Nat.ble_eq_true_of_le (Nat.le_refl _)) (by rw [setAll_whole vs l (by rw [hn, hl])]; exact h)
/-! ### Building -/
/-- The parts laid into the zero cells. -/
def lay (offs : List (Nat × TypeId)) : List (Nat × Value) → List Value → List Value
  | [], z => z
  | (i, v) :: ps, z => lay offs ps (setAll z ((offs[i]?.map (·.1)).getD 0) v.cells.toList)
theorem foldl_set (vs : List Value) : ∀ (cs : Array Value) (off j : Nat), (vs.zipIdx j).foldl (fun cs (x : Value × Nat) => cs.setIfInBounds (off + x.2) x.1) cs = (setAll cs.toList (off + j) vs).toArray := by
  induction vs with
  | nil => intro cs off j; simp [setAll]
  | cons v vs ih =>
    intro cs off j
    simp only [List.zipIdx_cons, List.foldl_cons, setAll]
    rw [ih]
    simp [Nat.add_assoc]
theorem fill_lay (X : Cx P) (offs : List (Nat × TypeId)) (place : Nat → Option (Nat × Nat)) : ∀ (ps : List (Nat × Value)) (z : List Value),
    (∀ p ∈ ps, ∃ o s, place p.1 = some (o, s) ∧ (offs[p.1]?.map (·.1)) = some o ∧ p.2.cells.size = s ∧ o + s ≤ z.length) → Instr.fill place z.toArray ps = some (lay offs ps z).toArray
  | [], z, _ => by simp [Instr.fill, lay]
  | (i, v) :: ps, z, h => by
    obtain ⟨o, s, h1, h2, h3, h4⟩ := h (i, v) List.mem_cons_self
    simp only at h1 h2 h3
    have hfo : Array.foldl (fun cs (x : Value × Nat) => cs.setIfInBounds (o + x.2) x.1) z.toArray v.cells.zipIdx = (setAll z o v.cells.toList).toArray := by
      have := foldl_set v.cells.toList z.toArray o 0
      simp only [Nat.add_zero] at this
      rw [← this, ← Array.foldl_toList, Array.toList_zipIdx]
    simp only [Instr.fill, h1]
    rw [if_neg (by simp [h3]; omega)]
    have ih := fill_lay X offs place ps (setAll z o v.cells.toList) (fun p hp => by
      obtain ⟨o', s', g1, g2, g3, g4⟩ := h p (List.mem_cons_of_mem _ hp)
      exact ⟨o', s', g1, g2, g3, by rw [setAll_length]; exact g4⟩)
    simp only [lay, h2, Option.getD_some]
    rw [← ih]
    congr 1

theorem run_mapM_list {α β : Type} {f : α → Sem β} {g : α → β} {w : World} : ∀ (l : List α), (∀ x ∈ l, (f x).run P w = .ok (g x) w) → (l.mapM f).run P w = .ok (l.map g) w
  | [], _ => by simp
  | x :: l, h => by
    rw [List.mapM_cons]
    simp [h x List.mem_cons_self, run_mapM_list l (fun y hy => h y (List.mem_cons_of_mem _ hy))]
theorem run_mapM {α β : Type} {f : α → Sem β} {g : α → β} {w : World} (l : Array α) (h : ∀ x ∈ l, (f x).run P w = .ok (g x) w) : (l.mapM f).run P w = .ok (l.map g) w := by
  rw [Array.mapM_eq_mapM_toList]
  simp [run_mapM_list l.toList (fun x hx => h x (Array.mem_toList_iff.1 hx)), ← Array.toList_map]
def Cx.sz {P : Program} (X : Cx P) (t : TypeId) : Nat := match X.tab[t]? with | some (some i) => i.size | _ => 0
def Cx.is {P : Program} (X : Cx P) (t : TypeId) : Bool := match X.tab[t]? with | some (some _) => true | _ => false
theorem run_sz {t : TypeId} {w : World} (h : fr.X.is t = true) : (sizeOf t).run P w = .ok (fr.X.sz t) w := by
  unfold Cx.is at h
  split at h
  · rename_i i hi
    rw [run_sizeOf (fr.X.ti hi)]
    simp [Cx.sz, hi]
  · cases h
theorem y_build {t : TypeId} {parts : List (Nat × Operand)} {vs : List Value} {fs : List (Nat × TypeId)} {iz ib : Nat} {iv : List Value} (hx : ρ.evs (parts.map (·.2)) = some vs) (ht : fr.X.tab[t]? = some (some ⟨.st fs, iz, ib, iv⟩))
    (ha : fs.all (fun p => fr.X.is p.2) = true)
    (hf : ((parts.map (·.1)).zip vs).all (fun p => match fs[p.1]? with | some (o, ft) => Nat.beq p.2.cells.toList.length (fr.X.sz ft) && Nat.ble (o + fr.X.sz ft) iv.length | none => false) = true) :
    Yd fr ds ρ L (.build t parts.toArray) ty (.agg (lay fs ((parts.map (·.1)).zip vs) iv).toArray) :=
  exec_v (fun c e => by cases e) fun a w haa _ _ _ _ _ => by
    obtain ⟨d, inf, z, g1, g2, g3, g4, g5, g6, g7⟩ := TI.of_spec (fr.X.ti ht)
    simp only at g4 g7
    obtain ⟨g, rfl, hg⟩ := Ty.of_st g4
    have hev : (parts.map fun p => (p.1, a.eval p.2)) = (parts.map (·.1)).zip vs := by
      rw [← haa.evs hx]
      simp [List.zip_map', List.map_map, Function.comp_def]
    have hz : (zeroValue t).run P w = .ok z w := by simp [zeroValue, typeInfo, g2, g3]
    have hm : (g.mapM fun f => (do pure (f.offset, ← sizeOf f.type) : Sem (Nat × Nat))).run P w = .ok (g.map fun f => (f.offset, fr.X.sz f.type)) w := by
      refine run_mapM g fun f hfm => ?_
      rw [List.all_eq_true] at ha
      have := ha (f.offset, f.type) (by rw [hg]; exact List.mem_map_of_mem (Array.mem_toList_iff.2 hfm))
      simp [run_sz this]
    have hfill : Instr.fill ((g.map fun f => (f.offset, fr.X.sz f.type))[·]?) iv.toArray ((parts.map (·.1)).zip vs) = some (lay fs ((parts.map (·.1)).zip vs) iv).toArray := by
      refine fill_lay fr.X fs _ _ _ fun p hp => ?_
      rw [List.all_eq_true] at hf
      have := hf p hp
      split at this
      · rename_i o ft he
        simp only [Bool.and_eq_true] at this
        rw [hg] at he
        simp only [List.getElem?_map, Option.map_eq_some_iff] at he
        obtain ⟨fd, hfd, he⟩ := he
        cases he
        refine ⟨fd.offset, fr.X.sz fd.type, ?_, ?_, ?_, Nat.le_of_ble_eq_true this.2⟩
        · have : g[p.1]? = some fd := by rw [← Array.getElem?_toList]; exact hfd
          simp [this]
        · rw [hg]; simp [hfd]
        · simpa using Nat.eq_of_beq_eq_true this.1
      · cases this
    have hzc : z.cells = iv.toArray := by rw [← g7]
    have hm' : (g.mapM fun f => (Prod.mk f.offset <$> sizeOf f.type : Sem (Nat × Nat))).run P w = .ok (g.map fun f => (f.offset, fr.X.sz f.type)) w := by simpa using hm
    have hfill' := hfill
    simp only [Array.getElem?_map] at hfill'
    simp [execOp, Instr.build, hz, run_underlying g1, hm', hev, hzc, hfill']

/-! ### Rows of the call's own -/
/-- A slice that is owned, whole: n elements of sz cells each, of the element type e; what lies beyond is spare. -/
def Sl (e : TypeId) (sz : Nat) (A : Option Addr) (n c : Nat) (xs : List Value) : HP := fun h =>
  xs.length = n * sz ∧ n ≤ c ∧ c ≤ maxLen ∧ ((A = none ∧ c = 0 ∧ h = Hp.emp) ∨ ∃ g cur, A = some ⟨g, 0, none⟩ ∧ h = Hp.one g (.cells cur e (0, 0)) ∧ cur.size = c * sz ∧ cur.toList.take xs.length = xs)
theorem Sl.ofNil (e sz : Nat) : Sl e sz none 0 0 [] Hp.emp := ⟨by simp, Nat.le_refl _, Nat.zero_le _, .inl ⟨rfl, rfl, rfl⟩⟩
theorem Sl.ofCb {e sz b n : Nat} {l : List Value} (hl : l.length = n * sz) (hn : n ≤ maxLen) {h : Hp} (hc : cb b e l h) : Sl e sz (some ⟨b, 0, none⟩) n n l h :=
  ⟨hl, Nat.le_refl _, hn, .inr ⟨b, l.toArray, rfl, hc, by simp [hl], by simp⟩⟩
theorem Sat.imp {base : World} {M : Nat → Prop} {A B : HP} {L : List HP} {w : World} (h : Sat base M (A :: L) w) (f : ∀ k, A k → B k) : Sat base M (B :: L) w :=
  ⟨let ⟨k, ⟨h1, h2, a, l, d, e⟩, i, g⟩ := h.hp; ⟨k, ⟨h1, h2, f _ a, l, d, e⟩, i, g⟩, h.since⟩
theorem Sat.emp {base : World} {M : Nat → Prop} {B : HP} {L : List HP} {w : World} (h : Sat base M L w) (f : B Hp.emp) : Sat base M (B :: L) w :=
  ⟨let ⟨k, l, i, g⟩ := h.hp; ⟨k, ⟨Hp.emp, k, f, l, Hp.emp_disj _, rfl⟩, i, g⟩, h.since⟩
theorem J.imp {A B : HP} (f : ∀ k, A k → B k) (h : J fr ds ρ (B :: L) k) : J fr ds ρ (A :: L) k := fun a w ha hw => h a w ha (hw.imp f)
theorem J.emp {B : HP} (f : B Hp.emp) (h : J fr ds ρ (B :: L) k) : J fr ds ρ L k := fun a w ha hw => h a w ha (hw.emp f)
theorem Sl.owns {e sz n c : Nat} {A : Option Addr} {xs : List Value} {h : Hp} {w : World} {base : Nat} (s : Sl e sz A n c xs h) (i : h.In w) (hb : ∀ g, A = some ⟨g, 0, none⟩ → base ≤ g) : w.ownsRow base e sz (.slice A n c) n xs := by
  obtain ⟨h1, h2, h3, h4⟩ := s
  refine ⟨h1, ?_⟩
  rcases h4 with ⟨rfl, rfl, rfl⟩ | ⟨g, cur, rfl, rfl, h5, h6⟩
  · left
    have : n = 0 := by omega
    subst this
    exact ⟨rfl, rfl⟩
  · right
    exact ⟨g, c, cur, rfl, hb g rfl, i g _ (by simp [Hp.one]), h2, h3, h5, by rw [← h1]; exact h6⟩

theorem star_one {A : HP} {h : Hp} : star [A] h ↔ A h := by
  constructor
  · rintro ⟨h1, h2, a, rfl, _, rfl⟩; rw [Hp.add_emp]; exact a
  · intro a; exact ⟨h, Hp.emp, a, rfl, (Hp.emp_disj _).symm, (Hp.add_emp _).symm⟩
/-- One item of the list is turned. -/
theorem Sat.turn1 {base : World} {M : Nat → Prop} {A A' : HP} {L : List HP} {w w' : World} (h : Sat base M (A :: L) w)
    (ht : ∀ h1 : Hp, A h1 → h1.In w → ∃ h1' : Hp, A' h1' ∧ h1'.In w' ∧ (∀ b o, h1' b = some o → w.heap.size ≤ b ∨ h1 b ≠ none) ∧ ∀ b, b < w.heap.size → h1 b = none → w'.heap[b]? = w.heap[b]?)
    (hs : w.heap.size ≤ w'.heap.size) (eo : w'.os = w.os) (et : w'.tape = w.tape) (ep : w'.output = w.output) : Sat base M (A' :: L) w' := by
  obtain ⟨N, ⟨h1, s1, i1, n1⟩, hf, _⟩ := Sat.framed (pre := [A]) (R := L) h
  obtain ⟨h1', a', i', d', k'⟩ := ht h1 (star_one.1 s1) i1
  refine hf [A'] w' ⟨⟨h1', star_one.2 a', i', fun b o e => ?_⟩, ⟨eo, et, ep, hs, fun b hb hn => k' b hb ?_⟩⟩
  · rcases d' b o e with x | x
    · exact .inl x
    · exact .inr ((n1 b).2 x)
  · cases e : h1 b with
    | none => rfl
    | some o => exact absurd ((n1 b).2 (by rw [e]; simp)) hn
/-- append: what is owned grows. -/
theorem Sat.append {base : World} {M : Nat → Prop} {L : List HP} {w : World} {t ty e : TypeId} {A : Option Addr} {n c m c' sz ib : Nat} {i : TI} {xs news : List Value} {ad : Addr} {t0 : TI}
    (h : Sat base M (Sl e sz A n c xs :: L) w) (ht : TI.of P t = some t0) (ht0 : t0.ty = .sl e) (hi : TI.of P e = some i) (hsz : i.size = sz) (hby : i.bytes = ib) (hz : i.zero.length = sz) (h0 : 0 < sz)
    (hl : news.length = m * sz) (hnews : ∀ j u, news[j]? = some u → w.cell? (ad.add j) = some u) (h1 : ∀ u ∈ news, Value.one u = true) (h63 : n + m ≤ 4611686018427387904) (hbytes : (n + m) * ib ≤ 140737488355328) :
    ∃ A' c'' w', (Builtin.append_ #[t, t] ty #[.slice A n c, .slice (some ad) m c']).run P w = .ok (.slice A' (n + m) c'') w' ∧ Sat base M (Sl e sz A' (n + m) c'' (xs ++ news) :: L) w' := by
  obtain ⟨d, inf, z, g1, g2, g3, g4, g5, g6, g7⟩ := TI.of_spec ht
  rw [ht0] at g4
  have := Ty.of_sl g4
  subst this
  obtain ⟨d', inf', z', k1, k2, k3, k4, k5, k6, k7⟩ := TI.of_spec hi
  have hone : ∀ u ∈ news, u.oneCell' = true := fun u hu => by have := h1 u hu; cases u <;> first | rfl | cases this
  -- what is owned, as the kit's word has it
  obtain ⟨hp, ⟨hp1, hp2, a1, _, _, rfl⟩, hin, _⟩ := h.hp
  have i1 : hp1.In w := fun b o x => hin b o (Hp.add_left x)
  have hown := Sl.owns (base := 0) a1 i1 (fun _ _ => Nat.zero_le _)
  obtain ⟨v', w', hr, hown', hg, _, hat⟩ := run_append_own_at w 0 t ty e inf' z' sz ib g1 k2 k3 (k5.trans hsz) (k6.trans hby) (by rw [← Array.length_toList, k7, hz]) h0 _ n xs hown ad m c' news hl hnews hone (by unfold maxLen; omega) hbytes (Nat.zero_le _)
  have hform : ∃ A' c'', v' = .slice A' (n + m) c'' ∧ (A' = none ∧ c'' = 0 ∨ ∃ g cur, A' = some ⟨g, 0, none⟩ ∧ w'.heap[g]? = some (.cells cur e (0, 0)) ∧ n + m ≤ c'' ∧ c'' ≤ maxLen ∧ cur.size = c'' * sz ∧ cur.toList.take ((n + m) * sz) = xs ++ news) := by
    rcases hown'.2 with ⟨rfl, hn⟩ | ⟨g, cap, cur, rfl, _, q1, q2, q3, q4, q5⟩
    · exact ⟨none, 0, by rw [hn], .inl ⟨rfl, rfl⟩⟩
    · exact ⟨_, _, rfl, .inr ⟨g, cur, rfl, q1, q2, q3, q4, q5⟩⟩
  obtain ⟨A', c'', rfl, hA'⟩ := hform
  refine ⟨A', c'', w', hr, h.turn1 (fun k1 ak ik => ?_) hg.size hg.os hg.tape hg.output⟩
  obtain ⟨b1, b2, b3, b4⟩ := ak
  have hlen := hown'.1
  rcases hA' with ⟨rfl, rfl⟩ | ⟨g, cur, rfl, q1, q2, q3, q4, q5⟩
  · -- nothing was there, and nothing was appended
    have hnm : n + m = 0 := by
      rcases hown'.2 with ⟨_, hn⟩ | ⟨g, cap, cur, hv, _⟩
      · exact hn
      · cases hv
    refine ⟨Hp.emp, ⟨hlen, by omega, Nat.zero_le _, .inl ⟨rfl, rfl, rfl⟩⟩, Hp.emp_in _, fun b o x => (Hp.emp_no x).elim, fun b hb hk => ?_⟩
    refine hg.block b hb fun x => ?_
    rcases b4 with ⟨rfl, _, _⟩ | ⟨g, cur, rfl, rfl, _, _⟩
    · simp [Value.ownBlock] at x
    · simp only [Value.ownBlock, Option.some.injEq] at x
      subst x
      simp [Hp.one] at hk
  · refine ⟨Hp.one g (.cells cur e (0, 0)), ⟨hlen, q2, q3, .inr ⟨g, cur, rfl, rfl, q4, by rw [hlen]; exact q5⟩⟩, fun b o x => ?_, fun b o x => ?_, fun b hb hk => ?_⟩
    · simp only [Hp.one] at x; split at x
      · rename_i hb; cases x; rw [hb]; exact q1
      · cases x
    · simp only [Hp.one] at x; split at x
      · rename_i hb; subst hb
        rcases hat with y | y
        · right
          rcases b4 with ⟨rfl, _, _⟩ | ⟨g', cur', rfl, rfl, _, _⟩
          · simp [Value.ownBlock] at y
          · simp only [Value.ownBlock, Option.some.injEq] at y
            subst y
            simp [Hp.one]
        · left; simp only [Value.ownBlock, Option.some.injEq] at y; omega
      · cases x
    · refine hg.block b hb fun x => ?_
      rcases b4 with ⟨rfl, _, _⟩ | ⟨g', cur', rfl, rfl, _, _⟩
      · simp [Value.ownBlock] at x
      · simp only [Value.ownBlock, Option.some.injEq] at x
        subst x
        simp [Hp.one] at hk

class UpdS (A : Option Addr) (e sz n c : outParam Nat) (xs : outParam (List Value)) (L : List HP) (rem : outParam (List HP)) : Prop where
  perm : L.Perm (Sl e sz A n c xs :: rem)
instance (A : Option Addr) (e sz n c : Nat) (xs : List Value) (L : List HP) : UpdS A e sz n c xs (Sl e sz A n c xs :: L) L := ⟨List.Perm.refl _⟩
instance (priority := low) (A : Option Addr) (e sz n c : Nat) (xs : List Value) (B : HP) (L rem : List HP) [h : UpdS A e sz n c xs L rem] : UpdS A e sz n c xs (B :: L) (B :: rem) :=
  ⟨(List.Perm.cons B h.perm).trans (List.Perm.swap _ _ _)⟩
/-- append of what can be read. -/
theorem s_appendR {x y : Operand} {t e : TypeId} {A : Option Addr} {n c m c' sz ib : Nat} {xs news : List Value} {ad : Addr} {ib0 : Nat} {iv0 : List Value} {ity : Ty} {iv : List Value} {rem : List HP} {sz0 : Nat}
    (hx : ρ.ev x = some (.slice A n c)) (hy : ρ.ev y = some (.slice (some ad) m c')) [hm : UpdS A e sz n c xs L rem] (ht : fr.X.tab[t]? = some (some ⟨.sl e, sz0, ib0, iv0⟩)) (hi : fr.X.tab[e]? = some (some ⟨ity, sz, ib, iv⟩))
    (hz : iv.length = sz) (h0 : Nat.ble 1 sz = true) (hd : Nat.ble (d + 1) fr.n = true)
    (hnews : ∀ w, Sat fr.base fr.M (Sl e sz A n c xs :: rem) w → ∀ j u, news[j]? = some u → w.cell? (ad.add j) = some u) (hl : news.length = m * sz) (h1 : ∀ u ∈ news, Value.one u = true) (h63 : n + m ≤ 4611686018427387904) (hbytes : (n + m) * ib ≤ 140737488355328)
    (h : ∀ A' c'', J fr ds ((d, .slice A' (n + m) c'') :: ρ) (Sl e sz A' (n + m) c'' (xs ++ news) :: rem) (.ops all rest :: k)) :
    J fr ds ρ L (.ops all (⟨some d, .call ⟨.builtin .append, #[x, y], #[t, t]⟩, ty, pos, af, none⟩ :: rest) :: k) :=
  s_eff (fun c e => by cases e) hd fun a w ha hw o ho _ => by
    have hw' := hw.perm hm.perm
    obtain ⟨A', c'', w', hr, hs⟩ := hw'.append (ty := o.type) (fr.X.ti ht) rfl (fr.X.ti hi) rfl rfl hz (Nat.le_of_ble_eq_true h0) hl (c' := c') (hnews w hw') h1 h63 hbytes
    refine ⟨.slice A' (n + m) c'', w', _, ?_, hs, h A' c''⟩
    unfold execOp; rw [ho]
    simp [resolve, invoke, builtin, ha.ev hx, ha.ev hy, hr]
/-- append of elements (a row that was just built). -/
theorem s_append {x y : Operand} {t e : TypeId} {A : Option Addr} {n c m c' sz ib b T : Nat} {xs news : List Value} {ib0 : Nat} {iv0 : List Value} {ity : Ty} {iv : List Value} {rem : List HP} {sz0 : Nat}
    (hx : ρ.ev x = some (.slice A n c)) (hy : ρ.ev y = some (.slice (some ⟨b, 0, none⟩) m c')) [hm : UpdS A e sz n c xs L rem] [hb : HasB b T news rem] (ht : fr.X.tab[t]? = some (some ⟨.sl e, sz0, ib0, iv0⟩)) (hi : fr.X.tab[e]? = some (some ⟨ity, sz, ib, iv⟩))
    (hz : iv.length = sz) (h0 : Nat.ble 1 sz = true) (hd : Nat.ble (d + 1) fr.n = true)
    (hl : news.length = m * sz) (h1 : news.all Value.one = true) (h63 : n + m ≤ 1099511627776) (hbytes : Nat.ble ib 100 = true)
    (h : ∀ A' c'', J fr ds ((d, .slice A' (n + m) c'') :: ρ) (Sl e sz A' (n + m) c'' (xs ++ news) :: rem) (.ops all rest :: k)) :
    J fr ds ρ L (.ops all (⟨some d, .call ⟨.builtin .append, #[x, y], #[t, t]⟩, ty, pos, af, none⟩ :: rest) :: k) :=
  s_appendR hx hy ht hi hz h0 hd (fun w hw j u hj => by
    have := hw.cbcell (List.mem_cons_of_mem _ hb.mem) (o := j) hj
    rw [addr_add, Nat.zero_add]; exact this) hl (by simpa using h1) (by omega)
    (Nat.le_trans (Nat.mul_le_mul_left _ (Nat.le_of_ble_eq_true hbytes)) (by omega)) h
/-- A row built of its elements (one cell each). -/
def layS (sz : Nat) : List (Nat × Value) → List Value → List Value
  | [], z => z
  | (i, v) :: ps, z => layS sz ps (setAll z (i * sz) v.cells.toList)
theorem fill_layS (sz : Nat) : ∀ (ps : List (Nat × Value)) (z : List Value),
    (∀ p ∈ ps, p.2.cells.size = sz ∧ p.1 * sz + sz ≤ z.length) → Instr.fill (fun i => some (i * sz, sz)) z.toArray ps = some (layS sz ps z).toArray
  | [], z, _ => by simp [Instr.fill, layS]
  | (i, v) :: ps, z, h => by
    obtain ⟨h3, h4⟩ := h (i, v) List.mem_cons_self
    simp only at h3 h4
    have hfo : Array.foldl (fun cs (x : Value × Nat) => cs.setIfInBounds (i * sz + x.2) x.1) z.toArray v.cells.zipIdx = (setAll z (i * sz) v.cells.toList).toArray := by
      have := foldl_set v.cells.toList z.toArray (i * sz) 0
      simp only [Nat.add_zero] at this
      rw [← this, ← Array.foldl_toList, Array.toList_zipIdx]
    simp only [Instr.fill]
    rw [if_neg (by simp [h3]; omega)]
    have ih := fill_layS sz ps (setAll z (i * sz) v.cells.toList) (fun p hp => by
      obtain ⟨g3, g4⟩ := h p (List.mem_cons_of_mem _ hp)
      exact ⟨g3, by rw [setAll_length]; exact g4⟩)
    simp only [layS]
    rw [← ih]
    congr 1
/-- n zero elements. -/
def zerosOf (z : List Value) : Nat → List Value
  | 0 => []
  | n + 1 => z ++ zerosOf z n
theorem zerosOf_length (z : List Value) : ∀ n, (zerosOf z n).length = n * z.length
  | 0 => by simp [zerosOf]
  | n + 1 => by simp [zerosOf, zerosOf_length z n, Nat.add_mul]; omega
theorem zerosOf_get (z : List Value) (h : 0 < z.length) : ∀ n i, i < n * z.length → (zerosOf z n)[i]? = z[i % z.length]?
  | 0, i, hi => by simp at hi
  | n + 1, i, hi => by
    simp only [zerosOf]
    by_cases hlt : i < z.length
    · rw [List.getElem?_append_left hlt, Nat.mod_eq_of_lt hlt]
    · rw [List.getElem?_append_right (by omega), zerosOf_get z h n (i - z.length) (by rw [Nat.add_mul] at hi; omega)]
      congr 1
      rw [Nat.mod_eq_sub_mod (show i ≥ z.length by omega)]
theorem made_zeros (z : List Value) (n : Nat) (h : 0 < z.length) : ((Array.range (n * z.length)).map fun i => z.toArray[i % z.toArray.size]!) = (zerosOf z n).toArray := by
  apply Array.ext'
  apply List.ext_getElem?
  intro i
  by_cases hi : i < n * z.length
  · rw [zerosOf_get z h n i hi]
    have hm : i % z.length < z.length := Nat.mod_lt _ h
    simp [hi, hm]
  · rw [List.getElem?_eq_none (by simp; omega), List.getElem?_eq_none (by simp [zerosOf_length]; omega)]
theorem run_bslice {t e : TypeId} {n sz : Nat} {ps : List (Nat × Value)} {iv : List Value} {z : Value} {w : World} (g1 : P.underlying t = some (.slice e)) (hsz : (sizeOf e).run P w = .ok sz w) (hz : (zeroValue e).run P w = .ok z w) (hzc : z.cells = iv.toArray)
    (hiv : iv.length = sz) (h0 : 1 ≤ sz) (hn : n * sz ≤ 16777216) (hp : ∀ p ∈ ps, p.2.cells.size = sz ∧ p.1 * sz + sz ≤ n * sz) :
    (Instr.buildSlice t n ps.toArray).run P w = .ok (.slice (some ⟨w.heap.size, 0, none⟩) n n) (w.alloc (.cells (layS sz ps (zerosOf iv n)).toArray e (0, 0))) := by
  have hfill : Instr.fill (fun i => some (i * sz, sz)) (zerosOf iv n).toArray ps = some (layS sz ps (zerosOf iv n)).toArray :=
    fill_layS sz _ _ fun p hp' => ⟨(hp p hp').1, by rw [zerosOf_length, hiv]; exact (hp p hp').2⟩
  have h16 : ¬ (2 ^ 24 < n * sz) := by omega
  by_cases hn0 : n = 0
  · subst hn0
    simp only [zerosOf] at hfill
    simp only [Instr.buildSlice, Sem.run_bind, run_underlying g1, Result.andThen_ok, hsz, Nat.zero_mul, Nat.not_lt_zero, gt_iff_lt, if_false, Sem.run_pure, if_true]
    have h00 : (Array.map (fun x => (#[] : Array Value)[x % (#[] : Array Value).size]!) (Array.range 0)) = #[] := by simp
    simp only [h00, hfill, newRow, Sem.run_bind, run_newObj, Result.andThen_ok, Sem.run_pure, zerosOf]
    rfl
  · have hne : n * sz ≠ 0 := by
      intro x; rcases Nat.mul_eq_zero.1 x with y | y <;> omega
    have hmz := made_zeros iv n (by omega)
    rw [hiv] at hmz
    simp only [Instr.buildSlice, Sem.run_bind, run_underlying g1, Result.andThen_ok, hsz, gt_iff_lt, h16, if_false, Sem.run_pure, hne, hz, hzc, hmz, hfill, newRow, run_newObj]
    rfl
theorem s_bslice {t e : TypeId} {n : Nat} {parts : List (Nat × Operand)} {vs : List Value} {ib0 sz0 sz ib : Nat} {iv0 iv : List Value} {ity : Ty} (hx : ρ.evs (parts.map (·.2)) = some vs) (ht : fr.X.tab[t]? = some (some ⟨.sl e, sz0, ib0, iv0⟩))
    (hi : fr.X.tab[e]? = some (some ⟨ity, sz, ib, iv⟩)) (hz : iv.length = sz) (h0 : Nat.ble 1 sz = true) (hn : Nat.ble (n * sz) 16777216 = true) (hd : Nat.ble (d + 1) fr.n = true)
    (hf : ((parts.map (·.1)).zip vs).all (fun p => Nat.beq p.2.cells.toList.length sz && Nat.ble (p.1 * sz + sz) (n * sz)) = true)
    (h : ∀ b, J fr ds ((d, .slice (some ⟨b, 0, none⟩) n n) :: ρ) (cb b e (layS sz ((parts.map (·.1)).zip vs) (zerosOf iv n)) :: L) (.ops all rest :: k)) :
    J fr ds ρ L (.ops all (⟨some d, .buildSlice t n parts.toArray, ty, pos, af, none⟩ :: rest) :: k) :=
  s_eff (fun c e => by cases e) hd fun a w haa hw o ho _ => by
    obtain ⟨d', inf, z', g1, g2, g3, g4, g5, g6, g7⟩ := TI.of_spec (fr.X.ti ht)
    have := Ty.of_sl g4
    subst this
    obtain ⟨z, hzr, hzl⟩ := run_zero (w := w) (fr.X.ti hi)
    have hsz := run_sizeOf (w := w) (fr.X.ti hi)
    simp only at hzl hsz
    have hev : (parts.map fun p => (p.1, a.eval p.2)) = (parts.map (·.1)).zip vs := by
      rw [← haa.evs hx]
      simp [List.zip_map', List.map_map, Function.comp_def]
    have hr := run_bslice (P := P) (w := w) (ps := (parts.map (·.1)).zip vs) g1 hsz hzr (by rw [← hzl]) hz (Nat.le_of_ble_eq_true h0) (Nat.le_of_ble_eq_true hn) (fun p hp => by
      rw [List.all_eq_true] at hf
      have := hf p hp
      simp only [Bool.and_eq_true] at this
      exact ⟨by simpa using Nat.eq_of_beq_eq_true this.1, Nat.le_of_ble_eq_true this.2⟩)
    refine ⟨.slice (some ⟨w.heap.size, 0, none⟩) n n, w.alloc (.cells (layS sz ((parts.map (·.1)).zip vs) (zerosOf iv n)).toArray e (0, 0)), _, ?_, hw.alloc _, h _⟩
    unfold execOp; rw [ho]
    simp [hev, hr]
/-! ### Rows that are owned, read -/
def ints (xs : List Int) : List Value := xs.map (Value.int .i64)
theorem ints_get {xs : List Int} {i : Nat} (h : i < xs.length) : (ints xs)[i]? = some (.int .i64 (xs.getD i 0)) := by
  simp [ints, List.getElem?_eq_getElem h]
theorem ints_length (xs : List Int) : (ints xs).length = xs.length := by simp [ints]
theorem Sl.rd {e sz n c : Nat} {A : Option Addr} {vs : List Value} {h : Hp} {w : World} (s : Sl e sz A n c vs h) (i : h.In w) : ∀ j v, vs[j]? = some v → ∃ ad, A = some ad ∧ w.cell? (ad.add j) = some v := by
  intro j v hj
  obtain ⟨_, _, _, h4⟩ := s
  have hlt : j < vs.length := (List.getElem?_eq_some_iff.1 hj).1
  rcases h4 with ⟨rfl, rfl, rfl⟩ | ⟨g, cur, rfl, rfl, h5, h6⟩
  · have : n = 0 := by omega
    subst this
    omega
  · refine ⟨_, rfl, ?_⟩
    rw [addr_add, Nat.zero_add]
    have hb := i g (.cells cur e (0, 0)) (by simp [Hp.one])
    have hc : cur.toList[j]? = some v := by rw [← h6, List.getElem?_take] at hj; split at hj <;> first | exact hj | cases hj
    simp only [World.cell?, hb]
    simpa using hc
theorem Sat.slRd {base : World} {M : Nat → Prop} {L : List HP} {e sz n c : Nat} {A : Option Addr} {vs : List Value} {w : World} (h : Sat base M L w) (hm : Sl e sz A n c vs ∈ L) : ∀ j v, vs[j]? = some v → ∃ ad, A = some ad ∧ w.cell? (ad.add j) = some v := by
  obtain ⟨k, s, i⟩ := h.has hm
  exact s.rd i
theorem Sat.slRdI {base : World} {M : Nat → Prop} {L : List HP} {e n c : Nat} {A : Option Addr} {xs : List Int} {w : World} (h : Sat base M L w) (hm : Sl e 1 A n c (ints xs) ∈ L) : RdI w A xs :=
  fun i hi => h.slRd hm i _ (ints_get hi)
class HasS (A : Option Addr) (e sz n c : outParam Nat) (xs : outParam (List Value)) (L : List HP) : Prop where
  mem : Sl e sz A n c xs ∈ L
instance (A : Option Addr) (e sz n c : Nat) (xs : List Value) (L : List HP) : HasS A e sz n c xs (Sl e sz A n c xs :: L) := ⟨List.mem_cons_self⟩
instance (priority := low) (A : Option Addr) (e sz n c : Nat) (xs : List Value) (B : HP) (L : List HP) [h : HasS A e sz n c xs L] : HasS A e sz n c xs (B :: L) := ⟨List.mem_cons_of_mem _ h.mem⟩
theorem y_ixS {t e : TypeId} {x ix : Operand} {i : TI} {jt : Ty} {jz jb : Nat} {jv : List Value} {A : Option Addr} {n c : Nat} {kd : IntKind} {q : Int} {xs : List Int} (hx : ρ.ev x = some (.slice A n c)) (hix : ρ.ev ix = some (.int kd q)) (hs : fr.X.tab[t]? = some (some i))
    (hi : i.ty = .sl e) (hj : fr.X.tab[e]? = some (some ⟨jt, jz, jb, jv⟩)) (hr : ∀ w, Sat fr.base fr.M L w → RdI w A xs) (hn : n = xs.length) (h0 : 0 ≤ q) (h1 : q < n) : Yd fr ds ρ L (.indexAddr t x ix) ty (.pointer (some ((A.getD default).add (q.toNat * jz)))) := by
  refine exec_v (fun c e => by cases e) fun a w ha hw dst pos af g => ?_
  obtain ⟨ad, rfl, _⟩ := hr w hw q.toNat (by omega)
  exact (y_indexAddr (ad := ad) hx hix hs hi hj h0 h1 rfl).2 a w ha hw _ rfl rfl
theorem y_ldS {t : TypeId} {x : Operand} {i : TI} {A : Option Addr} {sz : Nat} {q : Nat} {xs : List Int} (hx : ρ.ev x = some (.pointer (some ((A.getD default).add ((q : Int).toNat * sz))))) (ht : fr.X.tab[t]? = some (some i)) (hi : i.ty.agg = false)
    (h1 : Nat.beq sz 1 = true) (hr : ∀ w, Sat fr.base fr.M L w → RdI w A xs) (hq : q < xs.length) : Yd fr ds ρ L (.load t x) ty (.int .i64 (xs.getD q 0)) :=
  y_load1 hx ht hi fun w hw => by
    have e : sz = 1 := Nat.eq_of_beq_eq_true h1
    subst e
    obtain ⟨ad, rfl, hc⟩ := hr w hw q hq
    simpa using hc
theorem KI.of {base w : World} {M N : Nat → Prop} {L : List HP} {A : Option Addr} {xs : List Int} (h : KI base M A xs) (hl : ∀ w', Since w N w' → Sat base M L w') : KI w N A xs := fun w' h' => h w' (hl w' h').since
theorem KI.ofS {base w : World} {M N : Nat → Prop} {L : List HP} {e n c : Nat} {A : Option Addr} {xs : List Int} (hl : ∀ w', Since w N w' → Sat base M L w') (hm : Sl e 1 A n c (ints xs) ∈ L) : KI w N A xs := fun w' h' => (hl w' h').slRdI hm
theorem Sl.facts {e sz n c : Nat} {A : Option Addr} {vs : List Value} : ∀ h, Sl e sz A n c vs h → vs.length = n * sz ∧ n ≤ c := fun _ s => ⟨s.1, s.2.1⟩
end
end Go.E

/- The proof kit 'E', part 5: regions that draw their order. What only reads is taken first; behind each operation that has an effect, what was taken and need not have come before it must read the same. -/
namespace Go.E
open Go Go.RowKit
section
variable {P : Program} {r : Option Nat} {ops : Array Oper} {Q : Exit → Act → World → Prop}
def YA (P : Program) (ops : Array Oper) (o : Oper) (v : Value) (a : Act) (w : World) : Prop :=
  (Region.wanted o (yielded ops a.tmps) = true ∧ (execOp a.eval o).run P w = .ok (.value v) w) ∨ (Region.wanted o (yielded ops a.tmps) = false ∧ v = undef)
def waits (ops : Array Oper) (j i : Nat) : Bool := match ops[j]? with
  | some o => o.after.any fun e => Region.binds .any e && Nat.beq e.on i
  | none => false
abbrev PA := Nat × Value × Act
def ReS (P : Program) (ops : Array Oper) (pend : List PA) (w : World) : Prop := ∀ p ∈ pend, ∀ o, ops[p.1]? = some o → YA P ops o p.2.1 p.2.2 w
def wpAnyP (P : Program) (r : Option Nat) (ops : Array Oper) (Q : Exit → Act → World → Prop) : Nat → List PA → Array Bool → Act → World → Prop
  | 0, _, listed, a, w => Region.ready .any ops listed = [] ∧ Q .normal a w
  | fuel + 1, pend, listed, a, w => (Region.ready .any ops listed = [] → Q .normal a w) ∧
    ∀ j ∈ Region.ready .any ops listed, wpOpIn (FW r) 0 P ops Q j (fun a1 w1 => ReS P ops (pend.filter fun p => !waits ops j p.1) w1 ∧ wpAnyP P r ops Q fuel (pend.filter fun p => !waits ops j p.1) (listed.setIfInBounds j true) a1 w1) a w
theorem wpAnyP_any : ∀ (fuel : Nat) (pend : List PA) (listed : Array Bool) (a : Act) (w : World), wpAnyP P r ops Q fuel pend listed a w → wpAnyIn (FW r) 0 P .any ops Q fuel listed a w
  | 0, _, _, _, _, h => h
  | fuel + 1, _, _, _, _, h => ⟨h.1, fun j hj => wpOpIn_mono (fun a' w' h' => wpAnyP_any fuel _ _ a' w' h'.2) (h.2 j hj)⟩
theorem ReS.sub {p1 p2 : List PA} {w : World} (h : ReS P ops p1 w) (s : ∀ p ∈ p2, p ∈ p1) : ReS P ops p2 w := fun p hp => h p (s p hp)
theorem wpAnyP_sub : ∀ (fuel : Nat) (p1 p2 : List PA) (listed : Array Bool) (a : Act) (w : World), (∀ p ∈ p2, p ∈ p1) → wpAnyP P r ops Q fuel p1 listed a w → wpAnyP P r ops Q fuel p2 listed a w
  | 0, _, _, _, _, _, _, h => h
  | fuel + 1, p1, p2, listed, a, w, s, h => ⟨h.1, fun j hj => wpOpIn_mono (fun a' w' h' => by
      have s' : ∀ p ∈ (p2.filter fun p => !waits ops j p.1), p ∈ (p1.filter fun p => !waits ops j p.1) := fun p hp => by
        rw [List.mem_filter] at hp ⊢; exact ⟨s p hp.1, hp.2⟩
      exact ⟨h'.1.sub s', wpAnyP_sub fuel _ _ _ a' w' s' h'.2⟩) (h.2 j hj)⟩
/-- An operation that is apart from what has been put. -/
theorem wpOpIn_move {j : Nat} {oi oj : Oper} {v : Value} {ai : Act} (hj : ops[j]? = some oj) (hap : oi.apart ops oj = true)
    (hsi : ∀ cs b, oi.op ≠ .select cs b) (hsj : ∀ cs b, oj.op ≠ .select cs b) (hQ : ∀ c a w, ¬ Q (.panic c) a w) {K : Act → World → Prop} {a : Act} {w : World}
    (he : execOp a.eval oi = execOp ai.eval oi ∧ Region.wanted oi (yielded ops a.tmps) = Region.wanted oi (yielded ops ai.tmps)) (h : wpOpIn (FW r) 0 P ops Q j K (a.put oi.dst v) w) :
    wpOpIn (FW r) 0 P ops Q j (fun a' w' => (execOp a'.eval oi = execOp ai.eval oi ∧ Region.wanted oi (yielded ops a'.tmps) = Region.wanted oi (yielded ops ai.tmps)) ∧ K (a'.put oi.dst v) w') a w := by
  obtain ⟨h1, h2, h3⟩ := Oper.apart_spec hap
  have keep : ∀ (a : Act), (execOp a.eval oi = execOp ai.eval oi ∧ Region.wanted oi (yielded ops a.tmps) = Region.wanted oi (yielded ops ai.tmps)) → ∀ u,
      (execOp (a.put oj.dst u).eval oi = execOp ai.eval oi ∧ Region.wanted oi (yielded ops (a.put oj.dst u).tmps) = Region.wanted oi (yielded ops ai.tmps)) := fun a hy u =>
    ⟨(execOp_put oi hsi a oj.dst u h3).trans hy.1, (wanted_put oi a oj.dst u h3).trans hy.2⟩
  unfold wpOpIn at *
  simp only [hj] at *
  rw [wanted_put oj a oi.dst v h1] at h
  split
  · rename_i hw
    simp only [hw, if_true] at h
    unfold Oper.wpIn at *
    refine ⟨fun _ _ => trivial, ?_⟩
    have h := h.2
    have hsem : Oper.semAt (FW r).round (a.put oi.dst v).eval oj = Oper.semAt (FW r).round a.eval oj := by
      have e1 := execOp_put (ops := ops) oj hsj a oi.dst v h1
      unfold Oper.semAt
      cases hro : (FW r).round with
      | none => exact e1
      | some l =>
        cases ho : oj.op <;> simp only [] <;> first | exact e1 | skip
        rename_i c
        have e2 : resolve (a.put oi.dst v).eval c oj.type = resolve a.eval c oj.type := resolve_congr c _ fun x hx => Act.eval_put fun d hd hxd => h1 d hd (by
          subst hxd
          exact List.mem_append_left _ (List.mem_filterMap.2 ⟨.tmp d, by rw [ho]; simpa [Op.operands] using hx, rfl⟩))
        rw [e2]
    rw [hsem] at h
    generalize (Oper.semAt (FW r).round a.eval oj).run P w = res at *
    cases res with
    | ok x w' =>
      cases x <;> simp only [Oper.uponIn] at h ⊢
      case value u => exact ⟨keep a he u, by rw [← Act.put_comm a v u h2]; exact h⟩
      case skip => exact ⟨keep a he _, by rw [← Act.put_comm a v undef h2]; exact h⟩
      case defer d =>
        refine ⟨keep { a with defers := d :: a.defers } he _, ?_⟩
        rw [← Act.put_comm _ v undef h2, ← Act.put_defers]
        exact h
      case enter f args =>
        refine ⟨h.1, CallsIn.mono h.2 fun e w'' hx => ?_⟩
        cases e with
        | returned u => exact ⟨keep a he u, by rw [← Act.put_comm a v u h2]; exact hx⟩
        | panicked c => exact absurd hx (hQ _ _ _)
        | outgrown => exact hx
      case row row args => exact ⟨h.1, RowsIn.mono h.2 fun u w'' hx => ⟨keep a he u, by rw [← Act.put_comm a v u h2]; exact hx⟩⟩
      case round l f tmps assign body =>
        refine ⟨h.1, RoundIn.mono h.2 fun e w'' hx => ?_⟩
        cases e with
        | returned u => exact ⟨keep a he u, by rw [← Act.put_comm a v u h2]; exact hx⟩
        | panicked c => exact absurd hx (hQ _ _ _)
        | outgrown => exact hx
    | halt x w' =>
      cases x <;> simp only [Oper.uponIn] at h ⊢
      case panic u => exact absurd h (hQ _ _ _)
  · rename_i hw
    simp only [hw] at h
    exact ⟨fun _ _ => trivial, keep a he _, by rw [← Act.put_comm a v undef h2]; exact h.2⟩
/-- An operation that reads, carried out. -/
theorem YA.wpOpIn {i : Nat} {o : Oper} {v : Value} {a ai : Act} {w : World} (hi : ops[i]? = some o) (hdf : ∀ c, o.op ≠ .defer c) (hy : YA P ops o v ai w)
    (he : execOp a.eval o = execOp ai.eval o ∧ Region.wanted o (yielded ops a.tmps) = Region.wanted o (yielded ops ai.tmps)) {K : Act → World → Prop} (h : K (a.put o.dst v) w) : wpOpIn (FW r) 0 P ops Q i K a w := by
  unfold Go.wpOpIn
  simp only [hi]
  rcases hy with ⟨hw, hv⟩ | ⟨hw, rfl⟩
  · rw [he.2, hw, if_pos rfl]
    refine ⟨fun _ _ => trivial, ?_⟩
    rw [Oper.semAt_eq _ _ _ hdf, he.1, hv]
    exact h
  · rw [he.2, hw, if_neg (by simp)]
    exact ⟨fun _ _ => trivial, h⟩
theorem wpAnyP_first {i : Nat} {oi : Oper} {v : Value} {ai : Act} (hi : ops[i]? = some oi) (hdf : ∀ c, oi.op ≠ .defer c) (hsel : ∀ (j : Nat) (o : Oper) cs b, ops[j]? = some o → o.op ≠ .select cs b)
    (hQ : ∀ c a w, ¬ Q (.panic c) a w) : ∀ (fuel : Nat) (pend : List PA) (listed : Array Bool) (a : Act) (w : World),
      (∀ j oj, ops[j]? = some oj → j ≠ i → listed.getD j true = false → (∀ e ∈ oj.after, Region.binds .any e = true → e.on ≠ i) → oi.apart ops oj = true) →
      i ∈ Region.ready .any ops listed → (execOp a.eval oi = execOp ai.eval oi ∧ Region.wanted oi (yielded ops a.tmps) = Region.wanted oi (yielded ops ai.tmps)) → YA P ops oi v ai w → ReS P ops pend w →
      wpAnyP P r ops Q fuel ((i, v, ai) :: pend) (listed.setIfInBounds i true) (a.put oi.dst v) w → wpAnyP P r ops Q (fuel + 1) pend listed a w := by
  intro fuel
  induction fuel with
  | zero =>
    intro pend listed a w _ hr he hy hre H
    refine ⟨fun h => (by rw [h] at hr; cases hr), fun j hj => ?_⟩
    by_cases hji : j = i
    · subst hji
      exact hy.wpOpIn hi hdf he ⟨hre.sub fun p hp => (List.mem_filter.1 hp).1, H⟩
    · have := ready_mono hj hji
      rw [H.1] at this
      cases this
  | succ fuel ih =>
    intro pend listed a w hfree hr he hy hre H
    refine ⟨fun h => (by rw [h] at hr; cases hr), fun j hj => ?_⟩
    by_cases hji : j = i
    · subst hji
      refine hy.wpOpIn hi hdf he ⟨hre.sub fun p hp => (List.mem_filter.1 hp).1, ?_⟩
      exact wpAnyP_sub _ _ _ _ _ _ (fun p hp => List.mem_cons_of_mem _ (List.mem_filter.1 hp).1) H
    · have h1 := H.2 j (ready_mono hj hji)
      obtain ⟨hjun, oj, hoj, hall⟩ := mem_ready.1 hj
      have hnot : ∀ e ∈ oj.after, Region.binds .any e = true → e.on ≠ i := fun e he hb heq => by
        have h1 := hall e he hb
        have h0 := (mem_ready.1 hr).1
        rw [heq] at h1
        rcases Nat.lt_or_ge i listed.size with h' | h'
        · simp [h'] at h0 h1; rw [h0] at h1; cases h1
        · simp [Array.getElem?_eq_none h'] at h1
      have hnw : waits ops j i = false := by
        unfold waits
        rw [hoj]
        cases hx : oj.after.any fun e => Region.binds .any e && Nat.beq e.on i with
        | false => exact hx
        | true =>
          obtain ⟨e, hem, hb⟩ := Array.any_eq_true'.1 hx
          simp only [Bool.and_eq_true] at hb
          exact absurd (Nat.eq_of_beq_eq_true hb.2) (hnot e hem hb.1)
      have h2 := wpOpIn_move (ai := ai) hoj (hfree j oj hoj hji hjun hnot) (fun cs b => hsel i oi cs b hi) (fun cs b => hsel j oj cs b hoj) hQ he h1
      have hfree' : ∀ k ok, ops[k]? = some ok → k ≠ i → (listed.setIfInBounds j true).getD k true = false →
          (∀ e ∈ ok.after, Region.binds .any e = true → e.on ≠ i) → oi.apart ops ok = true := fun k ok hk hki hun hno => by
        refine hfree k ok hk hki ?_ hno
        by_cases hjk : j = k
        · subst hjk; exact hjun
        · rw [getD_set_ne true hjk] at hun; exact hun
      refine wpOpIn_mono (fun a' w' h3 => ?_) h2
      obtain ⟨he', hre', H'⟩ := h3
      have hf : (((i, v, ai) :: pend).filter fun p => !waits ops j p.1) = (i, v, ai) :: pend.filter fun p => !waits ops j p.1 := by
        rw [List.filter_cons_of_pos (by simp [hnw])]
      rw [hf] at hre' H'
      have hre'' := hre'.sub (p2 := pend.filter fun p => !waits ops j p.1) (fun p hp => List.mem_cons_of_mem _ hp)
      refine ⟨hre'', ih _ (listed.setIfInBounds j true) a' w' hfree' (ready_mono hr (Ne.symm hji)) he' (hre' _ List.mem_cons_self oi hi) hre'' ?_⟩
      rw [Array.setIfInBounds_comm _ _ hji]
      exact H'
/-- What reads the same whatever the world may be added. -/
theorem wpAnyP_add {i : Nat} {v : Value} {ai : Act} (hy : ∀ w o, ops[i]? = some o → YA P ops o v ai w) : ∀ (fuel : Nat) (pend : List PA) (listed : Array Bool) (a : Act) (w : World),
    wpAnyP P r ops Q fuel pend listed a w → wpAnyP P r ops Q fuel ((i, v, ai) :: pend) listed a w
  | 0, _, _, _, _, h => h
  | fuel + 1, pend, listed, a, w, h => ⟨h.1, fun j hj => wpOpIn_mono (fun a' w' h' => by
      by_cases hw : (!waits ops j i) = true
      · rw [List.filter_cons_of_pos (by simpa using hw)]
        refine ⟨fun p hp o ho => ?_, wpAnyP_add hy fuel _ _ a' w' h'.2⟩
        rcases List.mem_cons.1 hp with rfl | hp
        · exact hy w' o ho
        · exact h'.1 p hp o ho
      · rw [List.filter_cons_of_neg (by simpa using hw)]
        exact h') (h.2 j hj)⟩
theorem uponIn_mono2 {F : Fence} {n : Nat} {o : Oper} {a : Act} {K K' : Act → World → Prop} {Q Q' : Exit → Act → World → Prop} {x : Result Next} (hK : ∀ a w, K a w → K' a w) (hQ : ∀ e a w, e ≠ .normal → Q e a w → Q' e a w)
    (h : o.uponIn F n P a K Q x) : o.uponIn F n P a K' Q' x := by
  have hl : LetsOut Q → LetsOut Q' := fun ⟨a, w, q⟩ => ⟨a, w, hQ _ _ _ (by simp) q⟩
  cases x with
  | ok x w' =>
    cases x <;> simp only [Oper.uponIn] at h ⊢ <;>
      first
        | exact hK _ _ h
        | exact ⟨h.1, CallsIn.mono h.2 (fun e w'' he => by cases e <;> first | exact hK _ _ he | exact hQ _ _ _ (by simp) he | exact hl he)⟩
        | exact ⟨h.1, RowsIn.mono h.2 (fun _ _ he => hK _ _ he)⟩
        | exact ⟨h.1, RoundIn.mono h.2 (fun e w'' he => by cases e <;> first | exact hK _ _ he | exact hQ _ _ _ (by simp) he | exact hl he)⟩
  | halt x w' => cases x <;> simp only [Oper.uponIn] at h ⊢ <;> exact hQ _ _ _ (by simp) h
end

/-! ### The judgement on a region that draws its order -/
structure Pd where
  j : Nat
  v : Value
  ρ : Env
inductive Fit (n : Nat) (ds : List Deferred) : List Pd → List PA → Prop
  | nil : Fit n ds [] []
  | cons {j : Nat} {v : Value} {ρ : Env} {a : Act} {l : List Pd} {m : List PA} (h : Env.ok n ds ρ a) (t : Fit n ds l m) : Fit n ds (⟨j, v, ρ⟩ :: l) ((j, v, a) :: m)
def onlyN (K : Act → World → Prop) : Exit → Act → World → Prop
  | .normal, a, w => K a w
  | _, _, _ => False
def JD {P : Program} (fr : Fr P) (ds : List Deferred) (ρ : Env) (L : List HP) (all : Array Oper) (pend : List Pd) (fuel : Nat) (listed : Array Bool) (k : List It) : Prop :=
  ∀ pa, Fit fr.n ds pend pa → ∀ a w, Env.ok fr.n ds ρ a → Sat fr.base fr.M L w → ReS P all pa w → wpAnyP P fr.r all (onlyN (post fr k .normal)) fuel pa listed a w
def Fr.q {P : Program} (fr : Fr P) : Fr P := ⟨fr.X, fr.r, fr.base, fr.M, fr.n, fun _ _ _ => False⟩
section
variable {P : Program} {fr : Fr P} {ds : List Deferred} {ρ : Env} {L : List HP} {k : List It} {all : Array Oper} {pend : List Pd} {fuel : Nat} {listed : Array Bool}
theorem d_start {id : Nat} {l : List Oper} (h : JD fr ds ρ L l.toArray [] l.length (Array.replicate l.length false) k) : J fr ds ρ L (.code (.region id l.toArray true) :: k) := by
  intro a w ha hw
  refine wpIn_mono (Q := onlyN (post fr k .normal)) (wpIn_region_any fr.X.mix ?_) fun e a w hq => ?_
  · have := h [] .nil a w.drew ha hw.drew (fun p hp => by cases hp)
    have := wpAnyP_any _ _ _ _ _ this
    simpa using this
  · cases e with
    | normal => exact hq
    | _ => exact hq.elim
/-- May number i be taken first? -/
def okTake (all : Array Oper) (listed : Array Bool) (i : Nat) : Bool := Region.noSelect all && (Region.free .any all listed i && (Region.ready .any all listed).contains i)
def okOnly (all : Array Oper) (listed : Array Bool) (i : Nat) : Bool := match Region.ready .any all listed with | [j] => Nat.beq i j | _ => false
theorem Fit.of_ReS {pa : List PA} {i : Nat} {v : Value} {a : Act} {w : World} {o : Oper} (ho : all[i]? = some o) (h : ReS P all pa w) (hy : YA P all o v a w) : ReS P all ((i, v, a) :: pa) w := by
  intro p hp o' ho'
  rcases List.mem_cons.1 hp with rfl | hp
  · simp only at ho'; rw [ho] at ho'; cases ho'; exact hy
  · exact h p hp o' ho'
theorem d_take (i : Nat) {d : Nat} {op : Op} {ty : TypeId} {pos : String} {af : Array Edge} {v : Value} (hi : all[i]? = some ⟨some d, op, ty, pos, af, none⟩) (hok : okTake all listed i = true) (hy : Yd fr ds ρ L op ty v) (hd : Nat.ble (d + 1) fr.n = true)
    (h : JD fr ds ((d, v) :: ρ) L all (⟨i, v, ρ⟩ :: pend) fuel (listed.setIfInBounds i true) k) : JD fr ds ρ L all pend (fuel + 1) listed k := by
  intro pa hpa a w ha hw hre
  simp only [okTake, Bool.and_eq_true] at hok
  have hya : YA P all ⟨some d, op, ty, pos, af, none⟩ v a w := .inl ⟨rfl, hy.2 a w ha hw _ rfl rfl⟩
  refine wpAnyP_first hi hy.1 (Region.noSelect_spec hok.1) (fun _ _ _ => id) fuel pa listed a w (Region.free_spec hi hok.2.1) (by simpa using hok.2.2) ⟨rfl, rfl⟩ hya hre ?_
  exact h _ (.cons ha hpa) _ w (ha.put hd v) hw (Fit.of_ReS hi hre hya)
theorem d_takeG (i : Nat) {d : Nat} {op : Op} {ty : TypeId} {pos : String} {af : Array Edge} {v : Value} {j t : Nat} {b : Bool} (hi : all[i]? = some ⟨some d, op, ty, pos, af, some (j, b)⟩) (hok : okTake all listed i = true)
    (hj : (all[j]?).bind (·.dst) = some t) (ht : ρ.get t = some (.bool b)) (hy : Yd fr ds ρ L op ty v) (hd : Nat.ble (d + 1) fr.n = true)
    (h : JD fr ds ((d, v) :: ρ) L all (⟨i, v, ρ⟩ :: pend) fuel (listed.setIfInBounds i true) k) : JD fr ds ρ L all pend (fuel + 1) listed k := by
  intro pa hpa a w ha hw hre
  simp only [okTake, Bool.and_eq_true] at hok
  have hya : YA P all ⟨some d, op, ty, pos, af, some (j, b)⟩ v a w := .inl ⟨by simp [Region.wanted, yielded_of hj ha ht], hy.2 a w ha hw _ rfl rfl⟩
  refine wpAnyP_first hi hy.1 (Region.noSelect_spec hok.1) (fun _ _ _ => id) fuel pa listed a w (Region.free_spec hi hok.2.1) (by simpa using hok.2.2) ⟨rfl, rfl⟩ hya hre ?_
  exact h _ (.cons ha hpa) _ w (ha.put hd v) hw (Fit.of_ReS hi hre hya)
theorem d_skip (i : Nat) {d : Nat} {op : Op} {ty : TypeId} {pos : String} {af : Array Edge} {j t : Nat} {b c : Bool} (hi : all[i]? = some ⟨some d, op, ty, pos, af, some (j, c)⟩) (hok : okTake all listed i = true) (hdf : ∀ c, op ≠ .defer c)
    (hj : (all[j]?).bind (·.dst) = some t) (ht : ρ.get t = some (.bool b)) (hc : (b == c) = false) (hd : Nat.ble (d + 1) fr.n = true)
    (h : JD fr ds ((d, undef) :: ρ) L all pend fuel (listed.setIfInBounds i true) k) : JD fr ds ρ L all pend (fuel + 1) listed k := by
  intro pa hpa a w ha hw hre
  simp only [okTake, Bool.and_eq_true] at hok
  have hf : (some b == some c) = false := hc
  have hya : YA P all ⟨some d, op, ty, pos, af, some (j, c)⟩ undef a w := .inr ⟨by simp only [Region.wanted, yielded_of hj ha ht, hf], rfl⟩
  refine wpAnyP_first hi hdf (Region.noSelect_spec hok.1) (fun _ _ _ => id) fuel pa listed a w (Region.free_spec hi hok.2.1) (by simpa using hok.2.2) ⟨rfl, rfl⟩ hya hre ?_
  refine wpAnyP_add (fun w o ho => ?_) _ _ _ _ _ (h _ hpa _ w (ha.put hd undef) hw hre)
  rw [hi] at ho
  cases ho
  exact .inr ⟨by simp only [Region.wanted, yielded_of hj ha ht, hf], rfl⟩
theorem d_split {t : Nat} {p : Prop} [Decidable p] (ht : ρ.get t = some (.bool (decide p))) (hT : p → JD fr ds ((t, .bool true) :: ρ) L all pend fuel listed k) (hF : ¬ p → JD fr ds ((t, .bool false) :: ρ) L all pend fuel listed k) :
    JD fr ds ρ L all pend fuel listed k := by
  intro pa hpa a w ha hw hre
  have key : ∀ b, decide p = b → Env.ok fr.n ds ((t, .bool b) :: ρ) a := fun b hb => ⟨ha.size, ha.defers, fun u v e => by
    simp only [Env.get] at e
    cases hbq : Nat.beq t u with
    | true => rw [hbq] at e; cases e; have := Nat.eq_of_beq_eq_true hbq; subst this; rw [← hb]; exact ha.get _ _ ht
    | false => rw [hbq] at e; exact ha.get u v e⟩
  by_cases hp : p
  · exact hT hp pa hpa a w (key true (decide_eq_true hp)) hw hre
  · exact hF hp pa hpa a w (key false (decide_eq_false hp)) hw hre
theorem d_splitb {t : Nat} {b : Bool} (ht : ρ.get t = some (.bool b)) (hT : b = true → JD fr ds ((t, .bool true) :: ρ) L all pend fuel listed k) (hF : b = false → JD fr ds ((t, .bool false) :: ρ) L all pend fuel listed k) :
    JD fr ds ρ L all pend fuel listed k :=
  d_split (p := b = true) (by rw [ht]; cases b <;> rfl) hT (fun h => hF (by simpa using h))
/-- What has been taken, and need not have come before number i, reads the same. -/
def Re {P : Program} (fr : Fr P) (ds : List Deferred) (L : List HP) (all : Array Oper) (i : Nat) : List Pd → Prop
  | [] => True
  | p :: l => (waits all i p.j = true ∨ ∃ o, all[p.j]? = some o ∧ Yd fr ds p.ρ L o.op o.type p.v) ∧ Re fr ds L all i l
theorem re_nil {i : Nat} : Re fr ds L all i [] := trivial
theorem re_waits {i : Nat} {p : Pd} {l : List Pd} (h : waits all i p.j = true) (t : Re fr ds L all i l) : Re fr ds L all i (p :: l) := ⟨.inl h, t⟩
theorem re_yd {i : Nat} {j : Nat} {v : Value} {σ : Env} {l : List Pd} {dst : Option Tmp} {op : Op} {ty : TypeId} {pos : String} {af : Array Edge} {g : Option (Nat × Bool)} (ho : all[j]? = some ⟨dst, op, ty, pos, af, g⟩) (hy : Yd fr ds σ L op ty v) (t : Re fr ds L all i l) :
    Re fr ds L all i (⟨j, v, σ⟩ :: l) := ⟨.inr ⟨_, ho, hy⟩, t⟩
theorem Re.spec {i : Nat} {l : List Pd} {pa : List PA} (hf : Fit fr.n ds l pa) (h : Re fr ds L all i l) {w w' : World} (hre : ReS P all pa w) (hw : Sat fr.base fr.M L w') : ReS P all (pa.filter fun p => !waits all i p.1) w' := by
  induction hf with
  | nil => intro p hp; cases hp
  | cons ha _ ih =>
    have hre' := hre.sub fun p hp => List.mem_cons_of_mem _ hp
    have ih' := ih h.2 hre'
    intro p hp o ho
    rw [List.mem_filter] at hp
    rcases List.mem_cons.1 hp.1 with rfl | hp1
    · rcases h.1 with hwt | ⟨o', ho', hy⟩
      · simp [hwt] at hp
      · simp only at ho ho'
        rw [ho] at ho'; cases ho'
        rcases hre _ List.mem_cons_self o ho with ⟨h1, h2⟩ | h2
        · exact .inl ⟨h1, hy.2 _ _ ha hw o rfl rfl⟩
        · exact .inr h2
    · exact ih' p (List.mem_filter.2 ⟨hp1, hp.2⟩) o ho
theorem Fit.filter {n : Nat} {l : List Pd} {pa : List PA} (f : Nat → Bool) (h : Fit n ds l pa) : Fit n ds (l.filter fun p => f p.j) (pa.filter fun p => f p.1) := by
  induction h with
  | nil => exact .nil
  | cons ha _ ih =>
    rename_i j v ρ a l m _
    by_cases hf : f j = true
    · rw [List.filter_cons_of_pos (by simpa using hf), List.filter_cons_of_pos (by simpa using hf)]; exact .cons ha ih
    · rw [List.filter_cons_of_neg (by simpa using hf), List.filter_cons_of_neg (by simpa using hf)]; exact ih
/-- An operation that has an effect, where none but it may come up. -/
theorem d_eff (i : Nat) {o : Oper} (hi : all[i]? = some o) (hok : okOnly all listed i = true)
    (h : ∀ K : Act → World → Prop, (∀ ρ' L', Re fr ds L' all i pend → JD fr ds ρ' L' all (pend.filter fun p => !waits all i p.j) fuel (listed.setIfInBounds i true) k → J fr.q ds ρ' L' [.then_ K]) →
      J fr.q ds ρ L [.ops all [o], .then_ K]) : JD fr ds ρ L all pend (fuel + 1) listed k := by
  intro pa hpa a w ha hw hre
  have hr : Region.ready .any all listed = [i] := by
    unfold okOnly at hok
    split at hok
    · rename_i j e; rw [e, Nat.eq_of_beq_eq_true hok]
    · cases hok
  refine ⟨fun e => (by rw [hr] at e; cases e), fun j hj => ?_⟩
  rw [hr] at hj
  obtain rfl : j = i := by simpa using hj
  have hJ := h (fun a1 w1 => ReS P all (pa.filter fun p => !waits all j p.1) w1 ∧ wpAnyP P fr.r all (onlyN (post fr k .normal)) fuel (pa.filter fun p => !waits all j p.1) (listed.setIfInBounds j true) a1 w1) (fun ρ' L' hRe hJD a1 w1 ha1 hw1 => by
    have hS := Re.spec hpa hRe hre hw1
    exact ⟨hS, hJD _ (hpa.filter fun x => !waits all j x) a1 w1 ha1 hw1 hS⟩) a w ha hw
  change wpListIn (FW fr.r) 0 P all (post fr.q [.then_ _]) [o] a w at hJ
  unfold wpOpIn
  simp only [hi]
  simp only [wpListIn] at hJ
  split
  · rename_i hwn
    rw [if_pos hwn] at hJ
    refine ⟨fun _ _ => trivial, uponIn_mono2 (fun a w h => h) (fun e a w hne h => ?_) hJ.2⟩
    cases e with
    | normal => exact absurd rfl hne
    | _ => exact h
  · rename_i hwn
    rw [if_neg hwn] at hJ
    exact ⟨fun _ _ => trivial, hJ.2⟩
theorem d_done (hr : Region.ready .any all listed = []) (h : J fr ds ρ L k) : JD fr ds ρ L all pend fuel listed k := by
  intro pa hpa a w ha hw hre
  have hq := h a w ha hw
  cases fuel with
  | zero => exact ⟨hr, hq⟩
  | succ n => exact ⟨fun _ => hq, fun j hj => by rw [hr] at hj; cases hj⟩
end
end Go.E
