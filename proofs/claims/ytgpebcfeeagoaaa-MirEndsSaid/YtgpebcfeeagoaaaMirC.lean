/- Layer 6 (mir): the contracts of the small functions: has, with, odd, Inserted, regs; of slices.IndexFunc and ContainsFunc. -/
import Derived.Test.YtgpebcfeeagoaaaMirB
import Derived.Test.YtgpebcfeeagoaaaEEb
set_option linter.unusedVariables false
set_option linter.unusedSimpArgs false
namespace Go.Proofs.Ytgpebcfeeagoaaa
open Go Go.E
set_option maxRecDepth 4000
set_option maxHeartbeats 1000000
theorem iand_u8 (p q : Nat) (hp : p < 64) (hq : q < 64) : iand .u8 p q = ((p &&& q : Nat) : Int) := by
  have h : ∀ (p q : Fin 64), iand .u8 (p.val : Int) (q.val : Int) = ((p.val &&& q.val : Nat) : Int) := by decide +kernel
  exact h ⟨p, hp⟩ ⟨q, hq⟩
theorem with_spec (w : World) (N : Nat → Prop) (p q : Nat) (hp : p < 64) (hq : q < 64) (ho : Owns w [] N) : Ret Try.prog 48 [.int .u8 p, .int .u8 q] w N fun v L => v = .bool (decide (p &&& q ≠ 0)) ∧ L = [] := by
  refine ret_of_J cx Try.func48 rfl (Nat.le_of_ble_eq_true rfl) ho ?_
  refine s_seq ?_
  refine s_region ?_
  refine s_q (y_assign rfl) rfl ?_
  refine s_done ?_
  refine s_seq ?_
  refine s_region ?_
  refine s_q (y_move rfl) rfl ?_
  refine s_q (y_move rfl) rfl ?_
  refine s_q (y_as (y_and rfl rfl) (congrArg (Value.int .u8) (iand_u8 p q hp hq))) rfl ?_
  refine s_q (by (first | exact y_neq rfl rfl | exact y_neqB rfl rfl rfl)) rfl ?_
  refine s_q (y_assign rfl) rfl ?_
  refine s_done ?_
  exact s_return ⟨by congr 1; rw [Bool.eq_iff_iff]; simp, rfl⟩ (res_tmp Try.results48 rfl)
theorem odd_spec (w : World) (N : Nat → Prop) (b : Bool) (n : Int) (ho : Owns w [] N) : Ret Try.prog 57 [.bool b, .int .i64 n] w N fun v L => v = .bool (!b && decide (n ≠ 0)) ∧ L = [] := by
  refine ret_of_J cx Try.func57 rfl (Nat.le_of_ble_eq_true rfl) ho ?_
  refine s_seq ?_
  refine s_region ?_
  refine s_q (y_assign rfl) rfl ?_
  refine s_done ?_
  refine s_seq ?_
  cases b with
  | true =>
    refine s_region ?_
    refine s_q (y_move rfl) rfl ?_
    refine s_q (by (first | exact y_notT rfl | exact y_notF rfl | exact y_notp rfl | exact y_notb rfl)) rfl ?_
    refine s_q (y_move rfl) rfl ?_
    refine s_unguard2 (b := false) rfl rfl (by with_reducible rfl) rfl rfl ?_
    refine s_unguard2 (b := false) rfl rfl (by with_reducible rfl) rfl rfl ?_
    refine s_q (by (first | exact y_pickT rfl rfl | exact y_pickF rfl rfl)) rfl ?_
    refine s_q (y_assign rfl) rfl ?_
    refine s_done ?_
    exact s_return ⟨rfl, rfl⟩ (res_tmp Try.results57 rfl)
  | false =>
    refine s_region ?_
    refine s_q (y_move rfl) rfl ?_
    refine s_q (by (first | exact y_notT rfl | exact y_notF rfl | exact y_notp rfl | exact y_notb rfl)) rfl ?_
    refine s_q (y_move rfl) rfl ?_
    refine s_guard2 rfl rfl (by with_reducible rfl) ?_
    refine s_q (y_move rfl) rfl ?_
    refine s_guard2 rfl rfl (by with_reducible rfl) ?_
    refine s_q (by (first | exact y_neq rfl rfl | exact y_neqB rfl rfl rfl)) rfl ?_
    refine s_q (by (first | exact y_pickT rfl rfl | exact y_pickF rfl rfl)) rfl ?_
    refine s_q (y_assign rfl) rfl ?_
    refine s_done ?_
    exact s_return ⟨by simp, rfl⟩ (res_tmp Try.results57 rfl)
def insertedB (o : Int) : Bool := decide (o = 15 ∨ o = 16 ∨ o = 17)
theorem Inserted_spec (w : World) (N : Nat → Prop) (o : Int) (ho : Owns w [] N) : Ret Try.prog 28 [.int .i64 o] w N fun v L => v = .bool (insertedB o) ∧ L = [] := by
  refine ret_of_J cx Try.func28 rfl (Nat.le_of_ble_eq_true rfl) ho ?_
  refine s_seq ?_
  refine s_region ?_
  refine s_q (y_assign rfl) rfl ?_
  refine s_done ?_
  refine s_seq ?_
  refine s_seq ?_
  refine s_region ?_
  refine s_q (y_move rfl) rfl ?_
  refine s_done ?_
  refine s_block ?_
  refine s_seq ?_
  refine s_block ?_
  refine s_block ?_
  refine s_seq ?_
  refine s_seq ?_
  refine s_seq ?_
  refine s_region ?_
  refine s_q (by (first | exact y_eql rfl rfl | exact y_eqlB rfl rfl rfl)) rfl ?_
  refine s_q (y_assign rfl) rfl ?_
  refine s_done ?_
  refine s_cond rfl (fun h1 => ?_) (fun h1 => ?_)
  · refine s_exit rfl ?_
    refine s_endb ?_
    refine s_seq ?_
    refine s_seq ?_
    refine s_region ?_
    refine s_q (y_assign rfl) rfl ?_
    refine s_done ?_
    exact s_return ⟨by rw [insertedB, decide_eq_true (.inl h1)], rfl⟩ (res_tmp Try.results28 rfl)
  · refine s_skip ?_
    refine s_seq ?_
    refine s_seq ?_
    refine s_region ?_
    refine s_q (by (first | exact y_eql rfl rfl | exact y_eqlB rfl rfl rfl)) rfl ?_
    refine s_q (y_assign rfl) rfl ?_
    refine s_done ?_
    refine s_cond rfl (fun h2 => ?_) (fun h2 => ?_)
    · refine s_skip ?_
      refine s_cond rfl (fun h3 => ?_) (fun h3 => ?_)
      · refine s_exit rfl ?_
        refine s_seq ?_
        refine s_seq ?_
        refine s_region ?_
        refine s_q (y_assign rfl) rfl ?_
        refine s_done ?_
        exact s_return ⟨by rw [insertedB, decide_eq_true (.inr (.inl h2))], rfl⟩ (res_tmp Try.results28 rfl)
      · exact absurd h2 h3
    · refine s_region ?_
      refine s_q (by (first | exact y_eql rfl rfl | exact y_eqlB rfl rfl rfl)) rfl ?_
      refine s_q (y_assign rfl) rfl ?_
      refine s_done ?_
      refine s_cond rfl (fun h3 => ?_) (fun h3 => ?_)
      · refine s_exit rfl ?_
        refine s_seq ?_
        refine s_seq ?_
        refine s_region ?_
        refine s_q (y_assign rfl) rfl ?_
        refine s_done ?_
        exact s_return ⟨by rw [insertedB, decide_eq_true (.inr (.inr h3))], rfl⟩ (res_tmp Try.results28 rfl)
      · refine s_skip ?_
        refine s_exit rfl ?_
        refine s_seq ?_
        refine s_region ?_
        refine s_q (y_assign rfl) rfl ?_
        refine s_done ?_
        exact s_return ⟨by rw [insertedB, decide_eq_false (fun x => x.elim h1 (fun x => x.elim h2 h3))], rfl⟩ (res_tmp Try.results28 rfl)
theorem hasP_lt (o : Int) : hasP o < 64 := by
  unfold hasP
  repeat (first | omega | (split; · omega))
def hasT (k i : Nat) : Nat := if 2 ≤ i ∧ i < k then 7 else if i = 1 then 9 else if i = 11 then 11 else if i = 12 then 14 else if i = 13 then 32 else if i = 15 then 3 else if i = 16 then 18 else if i = 17 then 17 else 0
def tabL (k : Nat) : List Value := (List.range 18).map fun (i : Nat) => Value.int .u8 (hasT k i : Int)
theorem tabL_length (k : Nat) : (tabL k).length = 18 := by simp [tabL]
theorem tabL_set (k : Nat) (h2 : 2 ≤ k) (hk : k < 18) : (tabL k).set k (.int .u8 7) = tabL (k + 1) := by
  refine List.ext_getElem (by simp [tabL]) fun i h1 h3 => ?_
  simp only [tabL, List.getElem_set, List.getElem_map, List.getElem_range]
  by_cases e : k = i
  · subst e; rw [if_pos rfl, hasT, if_pos ⟨h2, by omega⟩]; rfl
  · rw [if_neg e, hasT, hasT]
    by_cases e2 : 2 ≤ i ∧ i < k
    · rw [if_pos e2, if_pos ⟨e2.1, by omega⟩]
    · have e3 : ¬ (2 ≤ i ∧ i < k + 1) := fun x => e2 ⟨x.1, by omega⟩
      simp only [e2, e3, if_false]
theorem tabL_get (o : Int) (h0 : 0 ≤ o) (h : o < 18) : (tabL 11)[o.toNat]? = some (.int .u8 (hasP o)) := by
  have h1 : o.toNat < 18 := by omega
  simp only [tabL, List.getElem?_map, List.getElem?_range h1, Option.map_some]
  obtain ⟨n, rfl⟩ : ∃ n : Nat, o = n := ⟨o.toNat, by omega⟩
  have : ∀ n, n < 18 → hasT 11 n = hasP (n : Int) := by decide
  rw [Int.toNat_natCast, this n (by omega)]
theorem has_spec (w : World) (N : Nat → Prop) (o : Int) (ho : Owns w [] N) : Ret Try.prog 47 [.int .i64 o] w N fun v L => v = .int .u8 (hasP o) ∧ L = [] := by
  refine ret_of_J cx Try.func47 rfl (Nat.le_of_ble_eq_true rfl) ho ?_
  refine s_seq ?_
  refine s_region ?_
  refine s_q (y_assign rfl) rfl ?_
  refine s_done ?_
  refine s_seq ?_
  refine s_region ?_
  refine s_q (by (first | exact y_buildA rfl rfl rfl rfl | exact y_build rfl rfl rfl rfl)) rfl ?_
  refine s_alloc rfl rfl (fun b => ?_)
  first | (refine s_storeW rfl rfl rfl rfl rfl (by rfl) ?_) | (refine s_storeN rfl rfl rfl rfl rfl (by rfl) ?_)
  change J _ _ _ (cb b _ (tabL 2) :: _) _
  refine s_done ?_
  refine s_seq ?_
  refine s_seq ?_
  refine s_region ?_
  refine s_q (y_assign rfl) rfl ?_
  refine s_done ?_
  refine s_block ?_
  refine s_loopV (σ := Nat) (fun s => [(4, .int .i64 s)]) (fun s => [cb b 97 (tabL s)]) (fun s => (s ≤ 11) ∧ (2 ≤ s)) (fun s => 11 - s) (2) [(0, _), (3, _)] ⟨rfl, rfl, trivial⟩ ⟨rfl, trivial⟩ tk ⟨(by (try dsimp only); omega), (by (try dsimp only); omega)⟩ ?_
  rintro k ⟨hk, h2⟩
  try dsimp only [List.cons_append, List.nil_append, List.append_nil] at hk h2 ⊢
  refine s_seq ?_
  refine s_seq ?_
  refine s_region ?_
  refine s_q (y_move rfl) rfl ?_
  refine s_q (y_leq rfl rfl) rfl ?_
  refine s_done ?_
  refine s_cond rfl (fun h => ?_) (fun h => ?_)
  · refine s_skip ?_
    refine s_seq ?_
    refine s_block ?_
    refine s_region ?_
    refine s_q (y_move rfl) rfl ?_
    refine s_q (by (first | exact y_indexAddrA rfl rfl rfl rfl rfl (by omega) (by omega) | exact y_ixI rfl rfl rfl rfl rfl (by assumption) rfl (by omega) (by omega))) rfl ?_
    refine s_storeA (q := (k : Int)) rfl rfl rfl rfl rfl (by omega) (by rw [tabL_length]; omega) ?_
    rw [Int.toNat_natCast, tabL_set k h2 (by omega)]
    refine s_done ?_
    refine s_endb ?_
    refine s_region ?_
    refine s_q (y_move rfl) rfl ?_
    refine s_q (y_add rfl rfl (by omega)) rfl ?_
    refine s_q (y_assign rfl) rfl ?_
    refine s_done ?_
    refine s_inv (k + 1) ⟨(by (try dsimp only); omega), (by (try dsimp only); omega)⟩ (by (try dsimp only); omega) ⟨rfl, rfl, rfl, trivial⟩ tk
  · have hk11 : k = 11 := by omega
    subst hk11
    refine s_exit rfl ?_
    refine s_seq ?_
    refine s_seq ?_
    by_cases e1 : o < 0
    · refine s_region ?_
      refine s_q (y_move rfl) rfl ?_
      refine s_q (by (first | exact y_as (y_lss rfl rfl) (congrArg Value.bool (decide_eq_true e1)) | exact y_lss rfl rfl)) rfl ?_
      refine s_q (y_move rfl) rfl ?_
      refine s_unguard2 (b := true) rfl rfl (by with_reducible rfl) rfl rfl ?_
      refine s_unguard2 (b := true) rfl rfl (by with_reducible rfl) rfl rfl ?_
      refine s_q (by (first | exact y_pickT rfl rfl | exact y_pickF rfl rfl)) rfl ?_
      refine s_done ?_
      refine s_condT2 rfl (by with_reducible rfl) ?_
      refine s_seq ?_
      refine s_region ?_
      refine s_q (y_assign rfl) rfl ?_
      refine s_done ?_
      exact s_return ⟨by rw [hasP]; repeat (first | rfl | (rw [if_neg (by omega)])), rfl⟩ (res_tmp Try.results47 rfl)
    by_cases e2 : 18 ≤ o
    · refine s_region ?_
      refine s_q (y_move rfl) rfl ?_
      refine s_q (by (first | exact y_as (y_lss rfl rfl) (congrArg Value.bool (decide_eq_false e1)) | exact y_lss rfl rfl)) rfl ?_
      refine s_q (y_move rfl) rfl ?_
      refine s_guard2 rfl rfl (by with_reducible rfl) ?_
      refine s_q (y_move rfl) rfl ?_
      refine s_guard2 rfl rfl (by with_reducible rfl) ?_
      refine s_q (by (first | exact y_as (y_geq rfl rfl) (congrArg Value.bool (decide_eq_true e2)) | exact y_geq rfl rfl)) rfl ?_
      refine s_q (by (first | exact y_pickT rfl rfl | exact y_pickF rfl rfl)) rfl ?_
      refine s_done ?_
      refine s_condT2 rfl (by with_reducible rfl) ?_
      refine s_seq ?_
      refine s_region ?_
      refine s_q (y_assign rfl) rfl ?_
      refine s_done ?_
      exact s_return ⟨by rw [hasP]; repeat (first | rfl | (rw [if_neg (by omega)])), rfl⟩ (res_tmp Try.results47 rfl)
    refine s_region ?_
    refine s_q (y_move rfl) rfl ?_
    refine s_q (by (first | exact y_as (y_lss rfl rfl) (congrArg Value.bool (decide_eq_false e1)) | exact y_lss rfl rfl)) rfl ?_
    refine s_q (y_move rfl) rfl ?_
    refine s_guard2 rfl rfl (by with_reducible rfl) ?_
    refine s_q (y_move rfl) rfl ?_
    refine s_guard2 rfl rfl (by with_reducible rfl) ?_
    refine s_q (by (first | exact y_as (y_geq rfl rfl) (congrArg Value.bool (decide_eq_false e2)) | exact y_geq rfl rfl)) rfl ?_
    refine s_q (by (first | exact y_pickT rfl rfl | exact y_pickF rfl rfl)) rfl ?_
    refine s_done ?_
    refine s_condF2 rfl (by with_reducible rfl) ?_
    refine s_skip ?_
    refine s_seq ?_
    refine s_region ?_
    refine s_q (y_move rfl) rfl ?_
    refine s_q (by (first | exact y_indexAddrA rfl rfl rfl rfl rfl (by omega) (by omega) | exact y_ixI rfl rfl rfl rfl rfl (by assumption) rfl (by omega) (by omega))) rfl ?_
    refine s_q (by (first | exact y_ldA rfl rfl rfl rfl (tabL_get o (by omega) (by omega)) | exact y_ld rfl rfl rfl (by rfl) | exact y_ldN rfl rfl rfl (by rfl) | exact y_ldK rfl rfl rfl rfl (by assumption) (by omega) | exact y_ldI rfl rfl rfl rfl (by assumption) (by omega) (by omega))) rfl ?_
    refine s_q (y_assign rfl) rfl ?_
    refine s_done ?_
    exact s_return ⟨rfl, rfl⟩ (res_tmp Try.results47 rfl)
end Go.Proofs.Ytgpebcfeeagoaaa
