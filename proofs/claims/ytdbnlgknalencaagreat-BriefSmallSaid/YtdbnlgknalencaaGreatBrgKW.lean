/- Rows of numbers that lie in a map. -/
import Derived.Test.YtdbnlgknalencaaGreatBrgCx
import Derived.Test.YtdbnlgknalencaaGreatEEb
set_option linter.unusedVariables false
set_option linter.unusedSimpArgs false
namespace Go.Proofs.YtdbnlgknalencaaGreat
open Go Go.E
set_option maxRecDepth 4000
/-- A row of numbers that lies in a map: its place, its room, what it holds. -/
structure Row where
  A : Option Addr
  c : Nat
  xs : List Int
def Row.val (r : Row) : Value := .slice r.A r.xs.length r.c
def Row.hp (r : Row) : HP := Sl 3 1 r.A r.xs.length r.c (ints r.xs)
abbrev Rows := List (Int × Row)
def Rows.vals (g : List (Int × Row)) : List (Int × Value) := g.map fun p => (p.1, p.2.val)
def Rows.hp (g : List (Int × Row)) : HP := star (g.map fun p => p.2.hp)
def nums (m : List (Int × Int)) : List (Int × Value) := m.map fun p => (p.1, .int .i64 p.2)
theorem mget_map {β γ : Type} (f : β → γ) (k : Int) : ∀ m : List (Int × β), mget k (m.map fun p => (p.1, f p.2)) = (mget k m).map f
  | [] => rfl
  | (a, b) :: r => by simp only [List.map_cons, mget, mget_map f k r]; split <;> rfl
theorem mget_mem {β : Type} {k : Int} {v : β} : ∀ {m : List (Int × β)}, mget k m = some v → (k, v) ∈ m
  | [], h => by simp [mget] at h
  | (a, b) :: r, h => by
    simp only [mget] at h
    split at h
    · rename_i e; cases h; subst e; simp
    · exact List.mem_cons_of_mem _ (mget_mem h)
theorem Rows.rd {base : World} {M : Nat → Prop} {L : List HP} {g : List (Int × Row)} {v : Int} {r : Row} {w : World} (h : Sat base M L w) (hm : Rows.hp g ∈ L) (hr : mget v g = some r) : RdI w r.A r.xs := by
  obtain ⟨k, s, i⟩ := h.has hm
  have hmem : r.hp ∈ g.map fun p => p.2.hp := List.mem_map.2 ⟨(v, r), mget_mem hr, rfl⟩
  have : Sat w (fun _ => True) (g.map fun p => p.2.hp) w := ⟨⟨k, s, i, fun _ _ _ => .inr trivial⟩, Since.refl _ _⟩
  exact this.slRdI hmem
def rowsAt (g : List (Int × Row)) (v : Int) : List Int := ((mget v g).map (·.xs)).getD []
/-! ### Rows in a map: one is taken out, one is put back -/
theorem vals_mset (a : Int) (r : Row) : ∀ g : List (Int × Row), Rows.vals (mset a r g) = mset a r.val (Rows.vals g)
  | [] => rfl
  | (x, y) :: g => by
    simp only [Rows.vals, mset, List.map_cons]
    by_cases h : x = a
    · simp [h]
    · rw [if_neg h, if_neg h]
      have := vals_mset a r g
      simp only [Rows.vals] at this
      simp [this]
theorem mem_mset {a : Int} {r : Row} : ∀ {g : List (Int × Row)} {p : Int × Row}, p ∈ mset a r g → p = (a, r) ∨ p ∈ g
  | [], p, h => by simp [mset] at h; exact .inl h
  | (x, y) :: g, p, h => by
    simp only [mset] at h
    by_cases hx : x = a
    · rw [if_pos hx] at h
      rcases List.mem_cons.1 h with h | h
      · exact .inl h
      · exact .inr (List.mem_cons_of_mem _ h)
    · rw [if_neg hx] at h
      rcases List.mem_cons.1 h with h | h
      · exact .inr (by rw [h]; exact List.mem_cons_self)
      · rcases mem_mset h with h | h
        · exact .inl h
        · exact .inr (List.mem_cons_of_mem _ h)
theorem rows_take (a : Int) : ∀ g : List (Int × Row), ∃ (r0 : Row) (K : List HP), (mget a (Rows.vals g)).getD (.slice none 0 0) = .slice r0.A r0.xs.length r0.c ∧ rowsAt g a = r0.xs ∧ (∀ h, Rows.hp g h → star (r0.hp :: K) h) ∧
    (∀ (r' : Row) h, star (r'.hp :: K) h → Rows.hp (mset a r' g) h) ∧ (∀ n, (∀ p ∈ g, p.2.xs.length ≤ n) → r0.xs.length ≤ n)
  | [] => ⟨⟨none, 0, []⟩, [], rfl, rfl, fun h e => by
      have : h = Hp.emp := e
      subst this
      exact ⟨Hp.emp, Hp.emp, Sl.ofNil _ _, rfl, Hp.emp_disj _, rfl⟩, fun r' h e => e, fun n _ => Nat.zero_le n⟩
  | (x, y) :: g => by
    by_cases hx : x = a
    · subst hx
      refine ⟨y, g.map fun p : Int × Row => p.2.hp, ?_, ?_, fun h e => e, fun r' h e => ?_, fun n hn => hn (x, y) List.mem_cons_self⟩
      · simp [Rows.vals, mget, Row.val]
      · simp [rowsAt, mget]
      · rw [show mset x r' ((x, y) :: g) = (x, r') :: g by simp [mset]]; exact e
    · obtain ⟨r0, K, h1, h2, h3, h4, h5⟩ := rows_take a g
      refine ⟨r0, y.hp :: K, ?_, ?_, fun h e => ?_, fun r' h e => ?_, fun n hn => h5 n fun p hp => hn p (List.mem_cons_of_mem _ hp)⟩
      · simp only [Rows.vals, List.map_cons, mget, if_neg hx]; exact h1
      · simp only [rowsAt, mget, if_neg hx]; exact h2
      · exact star_swap (star_cons h3 e)
      · simp only [Rows.hp, mset, if_neg hx, List.map_cons]
        exact star_cons (h4 r') (star_swap e)
section
variable {P : Program} {fr : Fr P} {ds : List Deferred} {ρ : Env} {L : List HP} {k : List It}
theorem J.rowsTake {g : List (Int × Row)} (a : Int) (n : Nat) (hn : ∀ p ∈ g, p.2.xs.length ≤ n) (h : ∀ (r0 : Row) (K : HP), (mget a (Rows.vals g)).getD (.slice none 0 0) = .slice r0.A r0.xs.length r0.c → rowsAt g a = r0.xs → r0.xs.length ≤ n →
    (∀ (r' : Row) h, star [r'.hp, K] h → Rows.hp (mset a r' g) h) → J fr ds ρ (r0.hp :: K :: L) k) : J fr ds ρ (Rows.hp g :: L) k := by
  obtain ⟨r0, K, h1, h2, h3, h4, h5⟩ := rows_take a g
  have := h r0 (star K) h1 h2 (h5 n hn) (fun r' hp e => h4 r' hp (by
    obtain ⟨x, y, e1, e2, d, rfl⟩ := e
    exact ⟨x, y, e1, star_one.1 e2, d, rfl⟩))
  refine J.imp (B := star (r0.hp :: K)) h3 (J.group.2 ?_)
  intro a w ha hw
  refine this a w ha ?_
  have h6 : Sat fr.base fr.M (K ++ (r0.hp :: L)) w := hw.perm (by
    have : (r0.hp :: K ++ L).Perm (K ++ (r0.hp :: L)) := List.perm_middle.symm
    exact this)
  exact (Sat.group.2 h6).perm (List.Perm.swap _ _ _)
theorem J.rowsPut {g : List (Int × Row)} {a : Int} {r' : Row} {K : HP} (hp : ∀ (r' : Row) h, star [r'.hp, K] h → Rows.hp (mset a r' g) h) (h : J fr ds ρ (Rows.hp (mset a r' g) :: L) k) : J fr ds ρ (r'.hp :: K :: L) k := by
  have := J.imp (L := L) (A := star [r'.hp, K]) (hp r') h
  exact J.group.1 this
theorem rowAdd {g : Rows} {a x : Int} {r0 : Row} {A1 : Option Addr} {c1 b : Nat} {K1 B : HP} (hp : ∀ (r' : Row) h, star [r'.hp, K1] h → Rows.hp (mset a r' g) h)
    (h : J fr ds ρ (Mp (Value.int .i64) b (Rows.vals (mset a ⟨A1, c1, r0.xs ++ [x]⟩ g)) :: Rows.hp (mset a ⟨A1, c1, r0.xs ++ [x]⟩ g) :: L) k) :
    J fr ds ρ (Mp (Value.int .i64) b (mset a (.slice A1 (r0.xs.length + 1) c1) (Rows.vals g)) :: Sl 3 1 A1 (r0.xs.length + 1) c1 (ints r0.xs ++ [.int .i64 x]) :: B :: K1 :: L) k := by
  have e1 : Row.hp ⟨A1, c1, r0.xs ++ [x]⟩ = Sl 3 1 A1 (r0.xs.length + 1) c1 (ints r0.xs ++ [.int .i64 x]) := by simp [Row.hp, ints]
  have e2 : Row.val ⟨A1, c1, r0.xs ++ [x]⟩ = .slice A1 (r0.xs.length + 1) c1 := by simp [Row.val]
  rw [vals_mset, e2] at h
  rw [← e1]
  refine J.perm (L' := Row.hp ⟨A1, c1, r0.xs ++ [x]⟩ :: K1 :: Mp (Value.int .i64) b (mset a (.slice A1 (r0.xs.length + 1) c1) (Rows.vals g)) :: B :: L) ?_ (J.rowsPut hp ?_)
  · refine (List.Perm.swap _ _ _).trans (List.Perm.cons _ ?_)
    exact (List.Perm.cons _ (List.Perm.swap _ _ _)).trans (List.Perm.swap _ _ _)
  · refine J.perm (L' := (Mp (Value.int .i64) b (mset a (.slice A1 (r0.xs.length + 1) c1) (Rows.vals g)) :: Rows.hp (mset a ⟨A1, c1, r0.xs ++ [x]⟩ g) :: L) ++ [B]) ?_ (J.drop h)
    refine (List.Perm.swap _ _ _).trans (List.Perm.cons _ ?_)
    refine List.Perm.cons _ ?_
    exact (List.perm_append_singleton B L).symm
end
theorem mset_len {g : Rows} {a : Int} {r : Row} {n m : Nat} (h : ∀ p ∈ g, p.2.xs.length ≤ n) (hr : r.xs.length ≤ m) (hn : n ≤ m) : ∀ p ∈ mset a r g, p.2.xs.length ≤ m := fun p hp => by
  rcases mem_mset hp with rfl | hp
  · exact hr
  · exact Nat.le_trans (h p hp) hn
theorem rowsAt_mset (a v : Int) (r : Row) (g : List (Int × Row)) : rowsAt (mset a r g) v = if a = v then r.xs else rowsAt g v := by
  unfold rowsAt; rw [mget_mset]; split <;> rfl
theorem vals_mdel (a : Int) : ∀ g : List (Int × Row), Rows.vals (mdel a g) = mdel a (Rows.vals g)
  | [] => rfl
  | (x, y) :: g => by
    simp only [Rows.vals, mdel, List.map_cons]
    by_cases h : x = a
    · simp [h]
    · rw [if_neg h, if_neg h]
      have := vals_mdel a g
      simp only [Rows.vals] at this
      simp [this]
theorem hp_mdel {P : Program} {fr : Fr P} {ds : List Deferred} {ρ : Env} {L : List HP} {k : List It} {g : List (Int × Row)} (a : Int) (h : J fr ds ρ (Rows.hp (mdel a g) :: L) k) : J fr ds ρ (Rows.hp g :: L) k := by
  have key : ∀ g : List (Int × Row), ∃ K : List HP, (g.map fun p => p.2.hp).Perm ((mdel a g).map (fun p => p.2.hp) ++ K) := by
    intro g
    induction g with
    | nil => exact ⟨[], List.Perm.refl _⟩
    | cons p g ih =>
      obtain ⟨x, y⟩ := p
      simp only [mdel]
      by_cases hx : x = a
      · rw [if_pos hx]; exact ⟨[y.hp], by simpa using (List.perm_append_singleton y.hp (g.map fun p => p.2.hp)).symm⟩
      · rw [if_neg hx]; obtain ⟨K, hK⟩ := ih; exact ⟨K, List.Perm.cons _ hK⟩
  obtain ⟨K, hK⟩ := key g
  refine J.group.2 (J.perm (L' := ((mdel a g).map (fun p => p.2.hp) ++ L) ++ K) ?_ (J.drop (J.group.1 h)))
  exact (List.Perm.append_right L hK).trans (by rw [List.append_assoc, List.append_assoc]; exact List.Perm.append_left _ List.perm_append_comm)
end Go.Proofs.YtdbnlgknalencaaGreat
