/- Layer 25 (slot): what slot.Of comes to, in one form; it hangs on the set of pairs alone. -/
import Derived.Test.YtfbmeponhejbhaaSlotN
set_option linter.unusedVariables false
set_option linter.unusedSimpArgs false
namespace Go.Proofs.Ytfbmeponhejbhaa
open Go Go.E
theorem IsLeast.congr {sm : List (Int × Int)} {ws ws' : List Int} {n : Nat} (h : ∀ x, x ∈ ws ↔ x ∈ ws') (hn : IsLeast sm ws n) : IsLeast sm ws' n :=
  ⟨fun x hx => hn.1 x ((h x).2 hx), fun j hj => let ⟨x, hx, e⟩ := hn.2 j hj; ⟨x, (h x).1 hx, e⟩⟩
theorem Greedy.congr {vs : List Int} {ps ps' : List (Int × Int)} {sl : List Nat} (h : ∀ v x, x ∈ nbr ps v ↔ x ∈ nbr ps' v) (hg : Greedy vs ps sl) : Greedy vs ps' sl := fun i hi => (hg i hi).congr (h _)
theorem Greedy.unique {vs : List Int} {ps : List (Int × Int)} {sl sl' : List Nat} (h : Greedy vs ps sl) (h' : Greedy vs ps sl') (hl : sl.length = sl'.length) : sl = sl' := by
  have key : ∀ k, k ≤ sl.length → sl.take k = sl'.take k := by
    intro k
    induction k with
    | zero => intro _; simp
    | succ k ih =>
      intro hk
      have e := ih (by omega)
      have h1 := h k (by omega)
      have h2 := h' k (by omega)
      rw [← e] at h2
      rw [take_snoc 0 sl k (by omega), take_snoc 0 sl' k (by omega), e, least_unique h1 h2]
  have := key sl.length (Nat.le_refl _)
  rwa [List.take_length, hl, List.take_length] at this
theorem Greedy.left {vs us : List Int} {ps : List (Int × Int)} {sl : List Nat} (n : Nat) (hn : n ≤ vs.length) (h : Greedy (vs ++ us) ps sl) : Greedy vs ps (sl.take n) := by
  intro i hi
  rw [List.length_take] at hi
  have := h i (by omega)
  rw [List.take_append_of_le_length (by omega)] at this
  rw [List.take_take, Nat.min_eq_left (by omega)]
  rw [show (sl.take n).getD i 0 = sl.getD i 0 by rw [List.getD_eq_getElem?_getD, List.getElem?_take_of_lt (by omega), ← List.getD_eq_getElem?_getD]]
  rwa [show (vs ++ us).getD i 0 = vs.getD i 0 by rw [List.getD_eq_getElem?_getD, List.getElem?_append_left (by omega), ← List.getD_eq_getElem?_getD]] at this
theorem mem_nbr {ps : List (Int × Int)} {v x : Int} : x ∈ nbr ps v ↔ ∃ p ∈ ps, (p.1 = v ∧ x = p.2) ∨ (p.2 = v ∧ x = p.1) := by
  simp only [nbr, List.mem_flatMap, List.mem_append]
  refine ⟨fun ⟨p, hp, h⟩ => ⟨p, hp, ?_⟩, fun ⟨p, hp, h⟩ => ⟨p, hp, ?_⟩⟩
  · rcases h with h | h
    · split at h
      · rename_i e; exact .inl ⟨e, by simpa using h⟩
      · cases h
    · split at h
      · rename_i e; exact .inr ⟨e, by simpa using h⟩
      · cases h
  · rcases h with ⟨e, rfl⟩ | ⟨e, rfl⟩
    · left; simp [e]
    · right; simp [e]
/-- A frame and an error, as values. -/
structure FV where
  xs : List Int
  hs : List Int
  t : Int
  s : Int
  e : Int
def natI (sl : List Nat) : List Int := sl.map Int.ofNat
def OfRel (vs : List Int) (ps : List (Int × Int)) (rs : List Int) (temp : Bool) (f : FV) : Prop :=
  (okArgs vs ps rs = false ∧ f = ⟨[], [], 0, 0, 2⟩) ∨
  (okArgs vs ps rs = true ∧ ∃ sl : List Nat, sl.length = vs.length ∧ Greedy vs ps sl ∧ f = ⟨natI sl, natI ((List.range rs.length).map (top sl + ·)), (if temp then ((top sl + rs.length : Nat) : Int) else -1), ((top sl + rs.length + (if temp then 1 else 0) : Nat) : Int), 0⟩)
theorem OfRel.unique {vs rs : List Int} {ps ps' : List (Int × Int)} {temp : Bool} {f f' : FV} (ha : okArgs vs ps rs = okArgs vs ps' rs) (hs : ∀ v x, x ∈ nbr ps v ↔ x ∈ nbr ps' v) (h : OfRel vs ps rs temp f) (h' : OfRel vs ps' rs temp f') : f = f' := by
  rcases h with ⟨h1, rfl⟩ | ⟨h1, sl, hl, hg, rfl⟩ <;> rcases h' with ⟨h2, rfl⟩ | ⟨h2, sl', hl', hg', rfl⟩
  · rfl
  · rw [ha, h2] at h1; cases h1
  · rw [ha, h2] at h1; cases h1
  · have := (hg.congr hs).unique hg' (hl.trans hl'.symm)
    subst this
    rfl
theorem OfRel.len {vs rs : List Int} {ps : List (Int × Int)} {temp : Bool} {f : FV} (h : OfRel vs ps rs temp f) : f.xs.length ≤ vs.length ∧ f.hs.length ≤ rs.length := by
  rcases h with ⟨_, rfl⟩ | ⟨_, sl, hl, _, rfl⟩
  · exact ⟨Nat.zero_le _, Nat.zero_le _⟩
  · exact ⟨by simp [natI, hl], by simp [natI]⟩
def FV.val (f : FV) (Av Ah : Option Addr) (cv ch : Nat) : Value := .agg #[.slice Av f.xs.length cv, .slice Ah f.hs.length ch, .int .i64 f.t, .int .i64 f.s]
def OfPostU (vs : List Int) (ps : List (Int × Int)) (rs : List Int) (temp : Bool) (v : Value) (L : List HP) : Prop :=
  ∃ (f : FV) (Av Ah : Option Addr) (cv ch : Nat), OfRel vs ps rs temp f ∧ v = .tuple #[.agg #[.slice Av f.xs.length cv, .slice Ah f.hs.length ch, .int .i64 f.t, .int .i64 f.s], .int .i64 f.e] ∧ L = [Sl 3 1 Av f.xs.length cv (ints f.xs), Sl 3 1 Ah f.hs.length ch (ints f.hs)]
theorem OfU_spec (w : World) (N : Nat → Prop) (A B C : Option Addr) (c cp cr : Nat) (vs rs : List Int) (ps : List (Int × Int)) (temp : Bool) (ho : Owns w [] N) (hv : KI w N A vs) (hp : KP w N B ps) (hr : KI w N C rs)
    (hlv : vs.length < 100000) (hlp : ps.length < 100000) (hlr : rs.length < 100000) :
    Ret Try.prog 11 [.slice A vs.length c, .slice B ps.length cp, .slice C rs.length cr, .bool temp] w N (OfPostU vs ps rs temp) := by
  refine Calls.mono (Of_spec w N A B C c cp cr vs rs ps temp ho hv hp hr hlv hlp hlr) fun e w' ⟨v, L', he, hR, hS⟩ => ?_
  rcases hR with ⟨h1, rfl, rfl⟩ | ⟨h1, sl, Av, Ah, cv, ch, hl, hg, rfl, rfl⟩
  · refine ⟨_, _, he, ⟨⟨[], [], 0, 0, 2⟩, none, none, 0, 0, .inl ⟨h1, rfl⟩, rfl, rfl⟩, ?_⟩
    exact (hS.emp (Sl.ofNil _ _)).emp (Sl.ofNil _ _)
  · refine ⟨_, _, he, ⟨⟨natI sl, natI ((List.range rs.length).map (top sl + ·)), (if temp then ((top sl + rs.length : Nat) : Int) else -1), ((top sl + rs.length + (if temp then 1 else 0) : Nat) : Int), 0⟩, Av, Ah, cv, ch, .inr ⟨h1, sl, hl, hg, rfl⟩, ?_, rfl⟩, ?_⟩
    · simp [natI, hl]
    · have e1 : (natI sl).length = vs.length := by simp [natI, hl]
      have e2 : (natI ((List.range rs.length).map (top sl + ·))).length = rs.length := by simp [natI]
      dsimp only
      rw [e1, e2]
      exact hS
end Go.Proofs.Ytfbmeponhejbhaa
