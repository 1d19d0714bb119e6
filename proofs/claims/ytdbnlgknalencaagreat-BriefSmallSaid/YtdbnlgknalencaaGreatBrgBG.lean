/- Layer 23 (brief), plain: what is so of right briefs. -/
import Derived.Test.YtdbnlgknalencaaGreatBrgBF
import Derived.Test.YtdbnlgknalencaaGreatEEb
set_option linter.unusedVariables false
set_option linter.unusedSimpArgs false
namespace Go.Proofs.YtdbnlgknalencaaGreat
open Go Go.E
set_option maxRecDepth 4000
set_option maxHeartbeats 1000000
def AtPost (l : List Int) (n : Int) (v : Value) (L : List HP) : Prop := ∃ z : Int, ((z = -1 ∧ n ∉ l) ∨ ∃ j : Nat, z = j ∧ j < l.length ∧ l.getD j 0 = n) ∧ v = .int .i64 z ∧ L = []
theorem at_mem {l : List Int} {n z : Int} (h : (z = -1 ∧ n ∉ l) ∨ ∃ j : Nat, z = j ∧ j < l.length ∧ l.getD j 0 = n) : 0 ≤ z ↔ n ∈ l := by
  rcases h with ⟨rfl, h⟩ | ⟨j, rfl, hj, h⟩
  · exact ⟨fun x => by omega, fun x => absurd x h⟩
  · exact ⟨fun _ => by rw [← h]; exact getD_mem 0 hj, fun _ => by omega⟩
theorem mem_rowOf : ∀ (vs cs : List Int) (c x : Int), x ∈ rowOf vs cs c ↔ ∃ j, j < vs.length ∧ j < cs.length ∧ vs.getD j 0 = x ∧ cs.getD j 0 = c
  | [], cs, c, x => by simp [rowOf]
  | v :: vs, [], c, x => by simp [rowOf]
  | v :: vs, d :: cs, c, x => by
    simp only [rowOf, List.mem_append, mem_rowOf vs cs c x]
    constructor
    · rintro (h | ⟨j, h1, h2, h3, h4⟩)
      · split at h
        · rename_i e; exact ⟨0, by simp, by simp, by simpa using (List.mem_singleton.1 h).symm, by simpa using e⟩
        · simp at h
      · exact ⟨j + 1, by simpa using h1, by simpa using h2, by simpa using h3, by simpa using h4⟩
    · rintro ⟨j, h1, h2, h3, h4⟩
      cases j with
      | zero => left; simp at h3 h4; rw [if_pos h4, h3]; simp
      | succ j => right; exact ⟨j, by simpa using h1, by simpa using h2, by simpa using h3, by simpa using h4⟩
/-- What is so of a right brief. -/
structure RB (b : BrD) : Prop where
  ris : risB 0 b.vars = true
  lc : b.cols.length = b.vars.length
  col : ∀ c ∈ b.cols, -1 ≤ c ∧ c ≤ 63
theorem RB.of {b : BrD} (h : rightB b = true) : RB b := by
  simp only [rightB, Bool.and_eq_true, decide_eq_true_eq, List.all_eq_true, inB] at h
  exact ⟨h.1, h.2.1, h.2.2.2.1⟩
theorem RB.mem {b : BrD} (h : RB b) {i : Nat} (hi : i < b.vars.length) (c : Int) : b.vars.getD i 0 ∈ rowOf b.vars b.cols c ↔ b.cols.getD i 0 = c := by
  rw [mem_rowOf]
  constructor
  · rintro ⟨j, h1, h2, h3, h4⟩
    by_cases e : j = i
    · subst e; exact h4
    · exact absurd h3 (risB_ne h.ris h1 hi e)
  · intro e; exact ⟨i, hi, by rw [h.lc]; exact hi, rfl, e⟩
theorem spB_iff : ∀ (vs cs : List Int) (x : Int), spB vs cs x = true ↔ ∃ j, j < vs.length ∧ j < cs.length ∧ vs.getD j 0 = x ∧ cs.getD j 0 < 0
  | [], cs, x => by simp [spB]
  | v :: vs, [], x => by simp [spB]
  | v :: vs, d :: cs, x => by
    simp only [spB, Bool.or_eq_true, Bool.and_eq_true, decide_eq_true_eq, spB_iff vs cs x]
    constructor
    · rintro (h | ⟨j, h1, h2, h3, h4⟩)
      · exact ⟨0, by simp, by simp, by simpa using h.1, by simpa using h.2⟩
      · exact ⟨j + 1, by simpa using h1, by simpa using h2, by simpa using h3, by simpa using h4⟩
    · rintro ⟨j, h1, h2, h3, h4⟩
      cases j with
      | zero => left; exact ⟨by simpa using h3, by simpa using h4⟩
      | succ j => right; exact ⟨j, by simpa using h1, by simpa using h2, by simpa using h3, by simpa using h4⟩
theorem RB.sp {b : BrD} (h : RB b) {i : Nat} (hi : i < b.vars.length) : spB b.vars b.cols (b.vars.getD i 0) = true ↔ b.cols.getD i 0 < 0 := by
  rw [spB_iff]
  constructor
  · rintro ⟨j, h1, h2, h3, h4⟩
    by_cases e : j = i
    · subst e; exact h4
    · exact absurd h3 (risB_ne h.ris h1 hi e)
  · intro e; exact ⟨i, hi, by rw [h.lc]; exact hi, rfl, e⟩
theorem row_len (vs cs : List Int) (c : Int) : (rowOf vs cs c).length ≤ vs.length := by
  induction vs generalizing cs with
  | nil => simp [rowOf]
  | cons v vs ih =>
    cases cs with
    | nil => simp [rowOf]
    | cons d cs => have := ih cs; simp only [rowOf, List.length_append, List.length_cons]; split <;> simp <;> omega
/-- What a brief adds, for one that it has. -/
theorem dl_at : ∀ (vs cs es : List Int) (p : Int), risB p vs = true → ∀ j, j < vs.length → j < cs.length → j < es.length → dl vs cs es (vs.getD j 0) = if cs.getD j 0 < 0 then -(es.getD j 0) else es.getD j 0
  | [], _, _, _, _, _, h, _, _ => absurd h (Nat.not_lt_zero _)
  | _ :: _, [], _, _, _, _, _, h, _ => absurd h (Nat.not_lt_zero _)
  | _ :: _, _ :: _, [], _, _, _, _, _, h => absurd h (Nat.not_lt_zero _)
  | v :: vs, c :: cs, e :: es, p, h, j, h1, h2, h3 => by
    simp only [risB, Bool.and_eq_true] at h
    have hlt := (risB_lt vs v h.2).1
    cases j with
    | zero =>
      simp only [List.getD_cons_zero, dl]
      rw [dl_zero vs cs es v (fun hm => by have := hlt v hm; omega)]; simp
    | succ j =>
      simp only [List.getD_cons_succ, dl]
      have hm := getD_mem 0 (l := vs) (k := j) (by simpa using h1)
      have := hlt _ hm
      rw [if_neg (by omega), dl_at vs cs es v h.2 j (by simpa using h1) (by simpa using h2) (by simpa using h3)]; simp
structure RE (b : BrD) : Prop extends RB b where
  le : b.edge.length = b.vars.length
  edge : ∀ e ∈ b.edge, 0 ≤ e ∧ e ≤ 1099511627776
theorem RE.of {b : BrD} (h : rightB b = true) : RE b := by
  refine ⟨RB.of h, ?_, ?_⟩
  · simp only [rightB, Bool.and_eq_true, decide_eq_true_eq] at h; exact h.2.2.1
  · simp only [rightB, Bool.and_eq_true, decide_eq_true_eq, List.all_eq_true, inB] at h; exact h.2.2.2.2
end Go.Proofs.YtdbnlgknalencaaGreat
