/- The proof kit 'E', part 1: parts of a heap, what a world holds, the judgement 'J' over a list of code still to be done. No program in sight. -/
import Derived.RangeFuncLeaves
import Derived.OrdersIn
import Derived.TacticsIn
import Derived.Below
import Derived.Laws.AppendOwn
namespace Go.E
open Go Go.RowKit

/-! ### Parts of a heap -/
abbrev Hp := Nat → Option Obj
def Hp.emp : Hp := fun _ => none
def Hp.one (b : Nat) (o : Obj) : Hp := fun x => if x = b then some o else none
def Hp.add (h k : Hp) : Hp := fun x => match h x with | some o => some o | none => k x
def Hp.Disj (h k : Hp) : Prop := ∀ x, h x = none ∨ k x = none
abbrev HP := Hp → Prop
def pt (b : Nat) (o : Obj) : HP := fun h => h = Hp.one b o
def star : List HP → HP
  | [] => fun h => h = Hp.emp
  | A :: L => fun h => ∃ h1 h2, A h1 ∧ star L h2 ∧ Hp.Disj h1 h2 ∧ h = h1.add h2

theorem Hp.Disj.symm {h k : Hp} (d : Hp.Disj h k) : Hp.Disj k h := fun x => (d x).symm
theorem Hp.add_comm {h k : Hp} (d : Hp.Disj h k) : h.add k = k.add h := by
  funext x
  rcases d x with e | e <;> simp only [Hp.add, e] <;> (first | (cases k x <;> rfl) | (cases h x <;> rfl))
theorem Hp.add_assoc (h k l : Hp) : (h.add k).add l = h.add (k.add l) := by
  funext x
  simp only [Hp.add]
  cases h x <;> rfl
theorem Hp.disj_add {h k l : Hp} : Hp.Disj h (k.add l) ↔ Hp.Disj h k ∧ Hp.Disj h l := by
  constructor
  · intro d
    constructor
    · intro x
      rcases d x with e | e
      · exact .inl e
      · right
        simp only [Hp.add] at e
        cases hk : k x with
        | none => rfl
        | some o => rw [hk] at e; simp at e
    · intro x
      rcases d x with e | e
      · exact .inl e
      · right
        simp only [Hp.add] at e
        cases hk : k x with
        | none => rw [hk] at e; simpa using e
        | some o => rw [hk] at e; simp at e
  · rintro ⟨d1, d2⟩ x
    rcases d1 x with e | e
    · exact .inl e
    · rcases d2 x with f | f
      · exact .inl f
      · right; simp [Hp.add, e, f]
theorem Hp.add_disj {h k l : Hp} : Hp.Disj (h.add k) l ↔ Hp.Disj h l ∧ Hp.Disj k l :=
  ⟨fun d => let ⟨a, b⟩ := Hp.disj_add.1 d.symm; ⟨a.symm, b.symm⟩, fun ⟨a, b⟩ => (Hp.disj_add.2 ⟨a.symm, b.symm⟩).symm⟩
theorem Hp.emp_disj (h : Hp) : Hp.Disj Hp.emp h := fun _ => .inl rfl
theorem Hp.emp_add (h : Hp) : Hp.emp.add h = h := rfl
theorem Hp.add_emp (h : Hp) : h.add Hp.emp = h := by funext x; simp only [Hp.add, Hp.emp]; cases h x <;> rfl
theorem Hp.add_some {h k : Hp} {x : Nat} {o : Obj} (e : (h.add k) x = some o) : h x = some o ∨ (h x = none ∧ k x = some o) := by
  simp only [Hp.add] at e
  cases hx : h x with
  | none => rw [hx] at e; exact .inr ⟨rfl, e⟩
  | some p => rw [hx] at e; exact .inl e
theorem Hp.add_left {h k : Hp} {x : Nat} {o : Obj} (e : h x = some o) : (h.add k) x = some o := by simp [Hp.add, e]
theorem Hp.add_right {h k : Hp} (d : Hp.Disj h k) {x : Nat} {o : Obj} (e : k x = some o) : (h.add k) x = some o := by
  rcases d x with f | f
  · simp [Hp.add, f, e]
  · rw [f] at e; cases e
theorem Hp.add_none {h k : Hp} {x : Nat} : (h.add k) x = none ↔ h x = none ∧ k x = none := by
  simp only [Hp.add]
  cases h x <;> simp

theorem star_swap {A B : HP} {L : List HP} {h : Hp} (s : star (A :: B :: L) h) : star (B :: A :: L) h := by
  obtain ⟨h1, h23, a, ⟨h2, h3, b, l, d23, rfl⟩, d1, rfl⟩ := s
  obtain ⟨d12, d13⟩ := Hp.disj_add.1 d1
  refine ⟨h2, h1.add h3, b, ⟨h1, h3, a, l, d13, rfl⟩, Hp.disj_add.2 ⟨d12.symm, d23⟩, ?_⟩
  rw [← Hp.add_assoc, Hp.add_comm d12, Hp.add_assoc]
theorem star_cons {A : HP} {L L' : List HP} (f : ∀ h, star L h → star L' h) {h : Hp} (s : star (A :: L) h) : star (A :: L') h :=
  let ⟨h1, h2, a, l, d, e⟩ := s; ⟨h1, h2, a, f _ l, d, e⟩
theorem star_perm {L L' : List HP} (p : L.Perm L') : ∀ h, star L h → star L' h := by
  induction p with
  | nil => exact fun _ s => s
  | cons _ _ ih => exact fun _ s => star_cons ih s
  | swap _ _ _ => exact fun _ s => star_swap s
  | trans _ _ ih1 ih2 => exact fun h s => ih2 h (ih1 h s)
theorem star_append {L K : List HP} {h : Hp} : star (L ++ K) h ↔ ∃ h1 h2, star L h1 ∧ star K h2 ∧ Hp.Disj h1 h2 ∧ h = h1.add h2 := by
  induction L generalizing h with
  | nil =>
    constructor
    · intro s; exact ⟨Hp.emp, h, rfl, s, Hp.emp_disj _, rfl⟩
    · rintro ⟨h1, h2, rfl, s, _, rfl⟩; exact s
  | cons A L ih =>
    constructor
    · rintro ⟨h1, h2, a, s, d, rfl⟩
      obtain ⟨k1, k2, l, m, d', rfl⟩ := ih.1 s
      obtain ⟨d1, d2⟩ := Hp.disj_add.1 d
      exact ⟨h1.add k1, k2, ⟨h1, k1, a, l, d1, rfl⟩, m, Hp.add_disj.2 ⟨d2, d'⟩, (Hp.add_assoc _ _ _).symm⟩
    · rintro ⟨h12, h2, ⟨h1, k1, a, l, d1, rfl⟩, m, d, rfl⟩
      obtain ⟨e1, e2⟩ := Hp.add_disj.1 d
      exact ⟨h1, k1.add h2, a, ih.2 ⟨k1, h2, l, m, e2, rfl⟩, Hp.disj_add.2 ⟨d1, e1⟩, Hp.add_assoc _ _ _⟩

/-! ### What a world holds -/
/-- Since 'base' nothing has turned but new blocks and the blocks of 'M'. -/
structure Since (base : World) (M : Nat → Prop) (w : World) : Prop where
  os : w.os = base.os
  tape : w.tape = base.tape
  output : w.output = base.output
  size : base.heap.size ≤ w.heap.size
  block : ∀ b, b < base.heap.size → ¬ M b → w.heap[b]? = base.heap[b]?
def Hp.In (h : Hp) (w : World) : Prop := ∀ b o, h b = some o → w.heap[b]? = some o
structure Sat (base : World) (M : Nat → Prop) (L : List HP) (w : World) : Prop where
  hp : ∃ h, star L h ∧ h.In w ∧ ∀ b o, h b = some o → base.heap.size ≤ b ∨ M b
  since : Since base M w
def noM : Nat → Prop := fun _ => False
theorem Since.refl (w : World) (M : Nat → Prop) : Since w M w := ⟨rfl, rfl, rfl, Nat.le_refl _, fun _ _ _ => rfl⟩
theorem Since.below {base w : World} (h : Since base noM w) : Below base.heap.size base w := ⟨h.os, h.tape, h.output, h.size, fun k hk => h.block k hk id⟩
theorem Sat.perm {base : World} {M : Nat → Prop} {L L' : List HP} {w : World} (p : L.Perm L') (h : Sat base M L w) : Sat base M L' w :=
  ⟨let ⟨k, s, i, f⟩ := h.hp; ⟨k, star_perm p _ s, i, f⟩, h.since⟩
theorem Sat.left {base : World} {M : Nat → Prop} {L K : List HP} {w : World} (h : Sat base M (L ++ K) w) : Sat base M L w := by
  obtain ⟨k, s, i, f⟩ := h.hp
  obtain ⟨h1, h2, s1, _, _, rfl⟩ := star_append.1 s
  exact ⟨⟨h1, s1, fun b o e => i b o (Hp.add_left e), fun b o e => f b o (Hp.add_left e)⟩, h.since⟩
theorem Hp.emp_no {b : Nat} {o : Obj} (e : Hp.emp b = some o) : False := by cases e
theorem Hp.emp_in (w : World) : Hp.emp.In w := fun _ _ e => (Hp.emp_no e).elim
theorem Sat.start (w : World) (M : Nat → Prop) : Sat w M [] w := ⟨⟨Hp.emp, rfl, Hp.emp_in w, fun _ _ e => (Hp.emp_no e).elim⟩, Since.refl _ _⟩
/-- What a call is handed to own. -/
def Owns (w : World) (pre : List HP) (M : Nat → Prop) : Prop := ∃ h : Hp, star pre h ∧ h.In w ∧ ∀ b, M b ↔ h b ≠ none
theorem Owns.nil (w : World) : Owns w [] noM := ⟨Hp.emp, rfl, Hp.emp_in w, fun _ => ⟨fun h => h.elim, fun h => h rfl⟩⟩
theorem Owns.sat {w : World} {pre : List HP} {M : Nat → Prop} (h : Owns w pre M) : Sat w M pre w :=
  let ⟨k, s, i, f⟩ := h; ⟨⟨k, s, i, fun b o e => .inr ((f b).2 (by rw [e]; simp))⟩, Since.refl _ _⟩

/-- The frame: what a call did not own stays. -/
theorem Since.trans {a b c : World} {M N : Nat → Prop} (h : Since a M b) (h' : Since b N c) (hN : ∀ x, x < a.heap.size → N x → M x) : Since a M c :=
  ⟨h'.os.trans h.os, h'.tape.trans h.tape, h'.output.trans h.output, Nat.le_trans h.size h'.size, fun x hx hm =>
    (h'.block x (Nat.lt_of_lt_of_le hx h.size) (fun hn => hm (hN x hx hn))).trans (h.block x hx hm)⟩
/-- The frame: what a call did not own stays: all the while (the last part), and behind it. -/
theorem Sat.framed {base : World} {M : Nat → Prop} {pre R : List HP} {w : World} (h : Sat base M (pre ++ R) w) :
    ∃ N, Owns w pre N ∧ (∀ L' w', Sat w N L' w' → Sat base M (L' ++ R) w') ∧ ∀ w', Since w N w' → Sat base M R w' := by
  obtain ⟨k, s, i, f⟩ := h.hp
  obtain ⟨h1, h2, s1, s2, d, rfl⟩ := star_append.1 s
  have lt2 : ∀ b o, h2 b = some o → b < w.heap.size ∧ h1 b = none := fun b o e => by
    have := i b o (Hp.add_right d e)
    refine ⟨(Array.getElem?_eq_some_iff.1 this).1, ?_⟩
    rcases d b with x | x
    · exact x
    · rw [x] at e; cases e
  have hsince : ∀ w', Since w (fun b => h1 b ≠ none) w' → Since base M w' := fun w' h' => h.since.trans h' fun x hx hn => by
    cases e1 : h1 x with
    | none => exact absurd e1 hn
    | some o1 => rcases f x o1 (Hp.add_left e1) with y | y
                 · omega
                 · exact y
  have hkeep : ∀ w', Since w (fun b => h1 b ≠ none) w' → ∀ b o, h2 b = some o → w'.heap[b]? = some o := fun w' h' b o e => by
    obtain ⟨l, n⟩ := lt2 b o e
    rw [h'.block b l (fun hn => hn n)]
    exact i b o (Hp.add_right d e)
  refine ⟨fun b => h1 b ≠ none, ⟨h1, s1, fun b o e => i b o (Hp.add_left e), fun b => Iff.rfl⟩, fun L' w' h' => ?_, fun w' h' => ⟨⟨h2, s2, hkeep w' h', fun b o e => f b o (Hp.add_right d e)⟩, hsince w' h'⟩⟩
  obtain ⟨k', s', i', f'⟩ := h'.hp
  have dd : Hp.Disj k' h2 := fun b => by
    cases e2 : h2 b with
    | none => exact .inr rfl
    | some o =>
      left
      cases ek : k' b with
      | none => rfl
      | some o' =>
        obtain ⟨l, n⟩ := lt2 b o e2
        rcases f' b o' ek with x | x
        · omega
        · exact absurd n x
  refine ⟨⟨k'.add h2, star_append.2 ⟨k', h2, s', s2, dd, rfl⟩, fun b o e => ?_, fun b o e => ?_⟩, hsince w' h'.since⟩
  · rcases Hp.add_some e with x | ⟨_, x⟩
    · exact i' b o x
    · exact hkeep w' h'.since b o x
  · rcases Hp.add_some e with x | ⟨_, x⟩
    · rcases f' b o x with y | y
      · left; have := h.since.size; omega
      · cases e1 : h1 b with
        | none => exact absurd e1 y
        | some o1 => exact f b o1 (Hp.add_left e1)
    · exact f b o (Hp.add_right d x)

/-- A world that differs in new blocks at its end alone, and draws: all stays. -/
theorem Sat.heap {base : World} {M : Nat → Prop} {L : List HP} {w w' : World} (h : Sat base M L w) (e : w'.heap = w.heap) (eo : w'.os = w.os) (et : w'.tape = w.tape) (ep : w'.output = w.output) : Sat base M L w' :=
  ⟨let ⟨k, s, i, f⟩ := h.hp; ⟨k, s, fun b o x => by rw [e]; exact i b o x, f⟩,
   ⟨eo.trans h.since.os, et.trans h.since.tape, ep.trans h.since.output, by rw [e]; exact h.since.size, fun b hb hm => by rw [e]; exact h.since.block b hb hm⟩⟩
theorem Sat.drew {base : World} {M : Nat → Prop} {L : List HP} {w : World} (h : Sat base M L w) : Sat base M L w.drew := h.heap rfl rfl rfl rfl
/-- A new block. -/
theorem Sat.alloc {base : World} {M : Nat → Prop} {L : List HP} {w : World} (h : Sat base M L w) (o : Obj) : Sat base M (pt w.heap.size o :: L) (w.alloc o) := by
  obtain ⟨k, s, i, f⟩ := h.hp
  have hn : k w.heap.size = none := by
    cases e : k w.heap.size with
    | none => rfl
    | some o' => have := (Array.getElem?_eq_some_iff.1 (i _ _ e)).1; omega
  have d : Hp.Disj (Hp.one w.heap.size o) k := fun b => by
    by_cases e : b = w.heap.size
    · right; rw [e]; exact hn
    · left; simp [Hp.one, e]
  refine ⟨⟨(Hp.one w.heap.size o).add k, ⟨_, k, rfl, s, d, rfl⟩, fun b o' e => ?_, fun b o' e => ?_⟩, ?_⟩
  · rcases Hp.add_some e with x | ⟨_, x⟩
    · simp only [Hp.one] at x
      split at x
      · rename_i hb; cases x; rw [hb]; exact Array.getElem?_push_size
      · cases x
    · have hl := (Array.getElem?_eq_some_iff.1 (i _ _ x)).1
      rw [Below.heap_alloc w o b hl]; exact i b o' x
  · rcases Hp.add_some e with x | ⟨_, x⟩
    · simp only [Hp.one] at x
      split at x
      · rename_i hb; left; rw [hb]; exact h.since.size
      · cases x
    · exact f b o' x
  · exact ⟨h.since.os, h.since.tape, h.since.output, by simp; have := h.since.size; omega, fun b hb hm => by
      rw [Below.heap_alloc w o b (Nat.lt_of_lt_of_le hb h.since.size)]; exact h.since.block b hb hm⟩
/-- A block that is owned, as it lies. -/
theorem Sat.at {base : World} {M : Nat → Prop} {L : List HP} {b : Nat} {o : Obj} {w : World} (h : Sat base M (pt b o :: L) w) : w.heap[b]? = some o := by
  obtain ⟨k, ⟨h1, h2, rfl, _, d, rfl⟩, i, _⟩ := h.hp
  exact i b o (Hp.add_left (by simp [Hp.one]))
/-- A block that is owned is turned. -/
theorem Sat.turn {base : World} {M : Nat → Prop} {L : List HP} {b : Nat} {o o' : Obj} {w w' : World} (h : Sat base M (pt b o :: L) w)
    (hb : w'.heap[b]? = some o') (hr : ∀ k, k ≠ b → w'.heap[k]? = w.heap[k]?) (hs : w'.heap.size = w.heap.size) (eo : w'.os = w.os) (et : w'.tape = w.tape) (ep : w'.output = w.output) :
    Sat base M (pt b o' :: L) w' := by
  obtain ⟨k, ⟨h1, h2, rfl, s, d, rfl⟩, i, f⟩ := h.hp
  have d' : Hp.Disj (Hp.one b o') h2 := fun x => by
    rcases d x with e | e
    · left
      simp only [Hp.one] at e ⊢
      split at e
      · cases e
      · rename_i hx; simp [hx]
    · exact .inr e
  refine ⟨⟨(Hp.one b o').add h2, ⟨_, h2, rfl, s, d', rfl⟩, fun x u e => ?_, fun x u e => ?_⟩, ?_⟩
  · rcases Hp.add_some e with y | ⟨y0, y⟩
    · simp only [Hp.one] at y
      split at y
      · rename_i hx; cases y; rw [hx]; exact hb
      · cases y
    · have hx : x ≠ b := by intro hx; simp [Hp.one, hx] at y0
      rw [hr x hx]; exact i x u (Hp.add_right d y)
  · rcases Hp.add_some e with y | ⟨_, y⟩
    · simp only [Hp.one] at y
      split at y
      · rename_i hx; rw [hx]; exact f b o (Hp.add_left (by simp [Hp.one]))
      · cases y
    · exact f x u (Hp.add_right d y)
  · refine ⟨eo.trans h.since.os, et.trans h.since.tape, ep.trans h.since.output, by rw [hs]; exact h.since.size, fun x hx hm => ?_⟩
    have hxb : x ≠ b := by
      intro e
      rcases f b o (Hp.add_left (by simp [Hp.one])) with y | y
      · omega
      · rw [e] at hm; exact hm y
    rw [hr x hxb]; exact h.since.block x hx hm

end Go.E
