/- Layer 6 (mir), the document's: has, in, within, reg, Inserted. -/
import Derived.Test.YtgpebcfeeagoaaaMirL
import Derived.Test.YtgpebcfeeagoaaaEEc
import Derived.Test.YtgpebcfeeagoaaaEEb
set_option linter.unusedVariables false
set_option linter.unusedSimpArgs false
namespace Go.Proofs.Ytgpebcfeeagoaaa
open Go Go.E
set_option maxRecDepth 4000
set_option maxHeartbeats 1000000
def inS (s : ByteArray) (c : Int) : Bool := s.data.toList.any fun b => decide ((b.toNat : Int) = c)
theorem byte_at {s : ByteArray} {k : Nat} (h : k < s.size) : s[k]? = some (s.data.toList.getD k 0) := by
  have h' : k < s.data.size := h
  rw [getElem?_pos s k h]
  rw [List.getD_eq_getElem?_getD, List.getElem?_eq_getElem (by simpa using h'), Option.getD_some, Array.getElem_toList]
  rfl
theorem in_spec (w : World) (N : Nat → Prop) (u : ByteArray) (c : Int) (ho : Owns w [] N) (hlen : u.size < 1000000000) :
    Ret Try.prog 51 [.string u, .int .u8 c] w N fun v L => v = .bool (inS u c) ∧ L = [] := by
  refine ret_of_J cx Try.func51 rfl (Nat.le_of_ble_eq_true rfl) ho ?_
  refine s_seq ?_
  refine s_region ?_
  refine s_q (y_assign rfl) rfl ?_
  refine s_done ?_
  refine s_seq ?_
  refine s_seq ?_
  refine s_region ?_
  refine s_q (y_assign rfl) rfl ?_
  refine s_done ?_
  refine s_block ?_
  have hsl : u.data.toList.length = u.size := by simp
  refine s_loopV (σ := Nat) (fun s => [(5, .int .i64 s)]) (fun s => []) (fun s => (s ≤ u.size) ∧ ((u.data.toList.drop s).any (fun b => decide ((b.toNat : Int) = c)) = inS u c)) (fun s => u.size - s) (0) [(0, _), (1, _)] ⟨rfl, rfl, trivial⟩ ⟨rfl, trivial⟩ tk ⟨Nat.zero_le _, rfl⟩ ?_
  rintro k ⟨hk, hf⟩
  try dsimp only [List.cons_append, List.nil_append, List.append_nil] at hk hf ⊢
  refine s_seq ?_
  refine s_seq ?_
  refine s_region ?_
  refine s_q (y_move rfl) rfl ?_
  refine s_q (y_move rfl) rfl ?_
  refine s_q (by (first | exact y_lenStr rfl rfl rfl | exact y_lenS rfl rfl rfl)) rfl ?_
  refine s_q (y_lss rfl rfl) rfl ?_
  refine s_done ?_
  refine s_cond rfl (fun h => ?_) (fun h => ?_)
  · have hkl : k < u.size := by omega
    rw [drop_D 0 u.data.toList k (by omega), List.any_cons] at hf
    refine s_skip ?_
    refine s_seq ?_
    refine s_block ?_
    refine s_seq ?_
    refine s_region ?_
    refine s_q (y_move rfl) rfl ?_
    refine s_q (y_move rfl) rfl ?_
    refine s_q (by (first | exact y_indexStr rfl rfl rfl rfl (by omega) (byte_at (by omega)) | exact y_move rfl | exact y_assign rfl | exact y_add rfl rfl (by omega) | exact y_sub rfl rfl (by omega) | exact y_lss rfl rfl | exact y_leq rfl rfl | exact y_gtr rfl rfl | exact y_geq rfl rfl | exact y_eql rfl rfl | exact y_neq rfl rfl | exact y_notT rfl | exact y_notF rfl | exact y_notp rfl | exact y_notb rfl | exact y_pickT rfl rfl | exact y_pickF rfl rfl | exact y_nilCheck rfl | exact y_fieldAddrB rfl rfl rfl rfl rfl rfl | exact y_fieldAddr rfl rfl rfl rfl rfl rfl | exact y_lenS rfl rfl rfl | exact y_ixI rfl rfl rfl rfl rfl (by assumption) rfl (by omega) (by omega) | exact y_ld rfl rfl rfl (by rfl) | exact y_ldN rfl rfl rfl (by rfl) | exact y_ldK rfl rfl rfl rfl (by assumption) (by omega) | exact y_ldI rfl rfl rfl rfl (by assumption) (by omega) (by omega) | exact y_extract rfl rfl | exact y_max rfl rfl | exact y_min rfl rfl | exact y_build rfl rfl rfl rfl | exact y_mul rfl rfl (by omega) | exact y_eqlB rfl rfl rfl | exact y_neqB rfl rfl rfl | exact y_sliceHi rfl rfl rfl (by omega) rfl rfl)) rfl ?_
    refine s_q (y_move rfl) rfl ?_
    refine s_q (by (first | exact y_eql rfl rfl | exact y_eqlB rfl rfl rfl)) rfl ?_
    refine s_done ?_
    refine s_cond rfl (fun h2 => ?_) (fun h2 => ?_)
    · rw [decide_eq_true (by simpa using h2)] at hf
      refine s_seq ?_
      refine s_region ?_
      refine s_q (y_assign rfl) rfl ?_
      refine s_done ?_
      exact s_return ⟨by rw [← hf]; rfl, rfl⟩ (res_tmp Try.results51 rfl)
    · rw [decide_eq_false (by simpa using h2), Bool.false_or] at hf
      refine s_skip ?_
      refine s_endb ?_
      refine s_region ?_
      refine s_q (y_move rfl) rfl ?_
      refine s_q (y_add rfl rfl (by omega)) rfl ?_
      refine s_q (y_assign rfl) rfl ?_
      refine s_done ?_
      refine s_inv (k + 1) ⟨(by (try dsimp only); omega), hf⟩ (by (try dsimp only); omega) ⟨rfl, rfl, rfl, trivial⟩ tk
  · rw [List.drop_of_length_le (by omega)] at hf
    refine s_exit rfl ?_
    refine s_seq ?_
    refine s_region ?_
    refine s_q (y_assign rfl) rfl ?_
    refine s_done ?_
    exact s_return ⟨by rw [← hf]; rfl, rfl⟩ (res_tmp Try.results51 rfl)
theorem within_spec (w : World) (N : Nat → Prop) (n lo hi : Int) (ho : Owns w [] N) :
    Ret Try.prog 42 [.int .i64 n, .int .i64 lo, .int .i64 hi] w N fun v L => v = .bool (decide (lo ≤ n ∧ n ≤ hi)) ∧ L = [] := by
  refine ret_of_J cx Try.func42 rfl (Nat.le_of_ble_eq_true rfl) ho ?_
  refine s_seq ?_
  refine s_region ?_
  refine s_q (y_assign rfl) rfl ?_
  refine s_done ?_
  refine s_seq ?_
  by_cases h1 : lo ≤ n
  · refine s_region ?_
    refine s_q (y_move rfl) rfl ?_
    refine s_q (y_move rfl) rfl ?_
    refine s_q (by (first | exact y_as (y_geq rfl rfl) (congrArg Value.bool (decide_eq_true h1)) | exact y_geq rfl rfl)) rfl ?_
    refine s_q (y_move rfl) rfl ?_
    refine s_guard2 rfl rfl (by with_reducible rfl) ?_
    refine s_q (y_move rfl) rfl ?_
    refine s_guard2 rfl rfl (by with_reducible rfl) ?_
    refine s_q (y_move rfl) rfl ?_
    refine s_guard2 rfl rfl (by with_reducible rfl) ?_
    refine s_q (y_leq rfl rfl) rfl ?_
    refine s_q (by (first | exact y_pickT rfl rfl | exact y_pickF rfl rfl)) rfl ?_
    refine s_q (y_assign rfl) rfl ?_
    refine s_done ?_
    exact s_return ⟨by simp [h1], rfl⟩ (res_tmp Try.results42 rfl)
  · refine s_region ?_
    refine s_q (y_move rfl) rfl ?_
    refine s_q (y_move rfl) rfl ?_
    refine s_q (by (first | exact y_as (y_geq rfl rfl) (congrArg Value.bool (decide_eq_false h1)) | exact y_geq rfl rfl)) rfl ?_
    refine s_q (y_move rfl) rfl ?_
    refine s_unguard2 (b := false) rfl rfl (by with_reducible rfl) rfl rfl ?_
    refine s_unguard2 (b := false) rfl rfl (by with_reducible rfl) rfl rfl ?_
    refine s_unguard2 (b := false) rfl rfl (by with_reducible rfl) rfl rfl ?_
    refine s_q (by (first | exact y_pickT rfl rfl | exact y_pickF rfl rfl)) rfl ?_
    refine s_q (y_assign rfl) rfl ?_
    refine s_done ?_
    exact s_return ⟨by simp [h1], rfl⟩ (res_tmp Try.results42 rfl)
theorem reg_spec (w : World) (N : Nat → Prop) (n : Int) (ho : Owns w [] N) :
    Ret Try.prog 52 [.int .i64 n] w N fun v L => v = .agg (encLoc (false, n)).toArray ∧ L = [] := by
  refine ret_of_J cx Try.func52 rfl (Nat.le_of_ble_eq_true rfl) ho ?_
  refine s_seq ?_
  refine s_region ?_
  refine s_alloc rfl rfl (fun b => ?_)
  refine s_done ?_
  refine s_seq ?_
  refine s_region ?_
  refine s_q (y_move rfl) rfl ?_
  refine s_q (y_build rfl rfl rfl rfl) rfl ?_
  first | (refine s_storeW rfl rfl rfl rfl rfl (by rfl) ?_) | (refine s_storeN rfl rfl rfl rfl rfl (by rfl) ?_)
  refine s_done ?_
  exact s_return (R := fun v L => v = .agg (encLoc (false, n)).toArray ∧ L = []) ⟨rfl, rfl⟩ (res_cellN Try.results52 rfl rfl rfl rfl)
theorem refInserted_spec (w : World) (N : Nat → Prop) (o : Int) (ho : Owns w [] N) : Ret Try.prog 29 [.int .i64 o] w N fun v L => v = .bool (insertedB o) ∧ L = [] := by
  refine ret_of_J cx Try.func29 rfl (Nat.le_of_ble_eq_true rfl) ho ?_
  refine s_seq ?_
  refine s_region ?_
  refine s_q (y_assign rfl) rfl ?_
  refine s_done ?_
  refine s_seq ?_
  by_cases h1 : o = 15
  · refine s_region ?_
    refine s_q (y_move rfl) rfl ?_
    refine s_q (by (first | exact y_as (y_eql (n := 15) rfl rfl) (congrArg Value.bool (decide_eq_true h1)) | exact y_eql rfl rfl | exact y_eqlB rfl rfl rfl)) rfl ?_
    refine s_q (y_move rfl) rfl ?_
    refine s_unguard2 (b := true) rfl rfl (by with_reducible rfl) rfl rfl ?_
    refine s_unguard2 (b := true) rfl rfl (by with_reducible rfl) rfl rfl ?_
    refine s_q (by (first | exact y_pickT rfl rfl | exact y_pickF rfl rfl)) rfl ?_
    refine s_q (y_move rfl) rfl ?_
    refine s_unguard2 (b := true) rfl rfl (by with_reducible rfl) rfl rfl ?_
    refine s_unguard2 (b := true) rfl rfl (by with_reducible rfl) rfl rfl ?_
    refine s_q (by (first | exact y_pickT rfl rfl | exact y_pickF rfl rfl)) rfl ?_
    refine s_q (y_assign rfl) rfl ?_
    refine s_done ?_
    exact s_return ⟨by rw [insertedB, decide_eq_true (.inl h1)], rfl⟩ (res_tmp Try.results29 rfl)
  by_cases h2 : o = 16
  · refine s_region ?_
    refine s_q (y_move rfl) rfl ?_
    refine s_q (by (first | exact y_as (y_eql (n := 15) rfl rfl) (congrArg Value.bool (decide_eq_false h1)) | exact y_as (y_eql (n := 16) rfl rfl) (congrArg Value.bool (decide_eq_true h2)) | exact y_eql rfl rfl | exact y_eqlB rfl rfl rfl)) rfl ?_
    refine s_q (y_move rfl) rfl ?_
    refine s_guard2 rfl rfl (by with_reducible rfl) ?_
    refine s_q (y_move rfl) rfl ?_
    refine s_guard2 rfl rfl (by with_reducible rfl) ?_
    refine s_q (by (first | exact y_as (y_eql (n := 15) rfl rfl) (congrArg Value.bool (decide_eq_false h1)) | exact y_as (y_eql (n := 16) rfl rfl) (congrArg Value.bool (decide_eq_true h2)) | exact y_eql rfl rfl | exact y_eqlB rfl rfl rfl)) rfl ?_
    refine s_q (by (first | exact y_pickT rfl rfl | exact y_pickF rfl rfl)) rfl ?_
    refine s_q (y_move rfl) rfl ?_
    refine s_unguard2 (b := true) rfl rfl (by with_reducible rfl) rfl rfl ?_
    refine s_unguard2 (b := true) rfl rfl (by with_reducible rfl) rfl rfl ?_
    refine s_q (by (first | exact y_pickT rfl rfl | exact y_pickF rfl rfl)) rfl ?_
    refine s_q (y_assign rfl) rfl ?_
    refine s_done ?_
    exact s_return ⟨by rw [insertedB, decide_eq_true (.inr (.inl h2))], rfl⟩ (res_tmp Try.results29 rfl)
  · refine s_region ?_
    refine s_q (y_move rfl) rfl ?_
    refine s_q (by (first | exact y_as (y_eql (n := 15) rfl rfl) (congrArg Value.bool (decide_eq_false h1)) | exact y_as (y_eql (n := 16) rfl rfl) (congrArg Value.bool (decide_eq_false h2)) | exact y_eql rfl rfl | exact y_eqlB rfl rfl rfl)) rfl ?_
    refine s_q (y_move rfl) rfl ?_
    refine s_guard2 rfl rfl (by with_reducible rfl) ?_
    refine s_q (y_move rfl) rfl ?_
    refine s_guard2 rfl rfl (by with_reducible rfl) ?_
    refine s_q (by (first | exact y_as (y_eql (n := 15) rfl rfl) (congrArg Value.bool (decide_eq_false h1)) | exact y_as (y_eql (n := 16) rfl rfl) (congrArg Value.bool (decide_eq_false h2)) | exact y_eql rfl rfl | exact y_eqlB rfl rfl rfl)) rfl ?_
    refine s_q (by (first | exact y_pickT rfl rfl | exact y_pickF rfl rfl)) rfl ?_
    refine s_q (y_move rfl) rfl ?_
    refine s_guard2 rfl rfl (by with_reducible rfl) ?_
    refine s_q (y_move rfl) rfl ?_
    refine s_guard2 rfl rfl (by with_reducible rfl) ?_
    refine s_q (by (first | exact y_as (y_eql (n := 15) rfl rfl) (congrArg Value.bool (decide_eq_false h1)) | exact y_as (y_eql (n := 16) rfl rfl) (congrArg Value.bool (decide_eq_false h2)) | exact y_eql rfl rfl | exact y_eqlB rfl rfl rfl)) rfl ?_
    refine s_q (by (first | exact y_pickT rfl rfl | exact y_pickF rfl rfl)) rfl ?_
    refine s_q (y_assign rfl) rfl ?_
    refine s_done ?_
    exact s_return ⟨by simp [insertedB, h1, h2], rfl⟩ (res_tmp Try.results29 rfl)
def hasS (o : Int) : ByteArray :=
  if o = 1 then ⟨#[100, 105]⟩ else if 2 ≤ o ∧ o ≤ 10 then ⟨#[100, 97, 98]⟩ else if o = 11 then ⟨#[100, 97, 105]⟩ else if o = 12 then ⟨#[97, 98, 105]⟩ else if o = 13 then ⟨#[99]⟩ else if o = 15 then ⟨#[100, 97]⟩ else if o = 16 then ⟨#[97, 115]⟩ else if o = 17 then ⟨#[100, 115]⟩ else ⟨#[]⟩
theorem refHas_spec (w : World) (N : Nat → Prop) (o : Int) (ho : Owns w [] N) : Ret Try.prog 50 [.int .i64 o] w N fun v L => v = .string (hasS o) ∧ L = [] := by
  refine ret_of_J cx Try.func50 rfl (Nat.le_of_ble_eq_true rfl) ho ?_
  refine s_seq ?_
  refine s_region ?_
  refine s_q (y_assign rfl) rfl ?_
  refine s_done ?_
  refine s_seq ?_
  refine s_block ?_
  refine s_seq ?_
  refine s_region ?_
  refine s_q (y_move rfl) rfl ?_
  refine s_q (by (first | exact y_eql rfl rfl | exact y_eqlB rfl rfl rfl)) rfl ?_
  refine s_q (y_assign rfl) rfl ?_
  refine s_done ?_
  unfold hasS
  refine s_cond rfl (fun h1 => ?_) (fun h1 => ?_)
  · refine s_seq ?_
    refine s_region ?_
    refine s_q (y_assign rfl) rfl ?_
    refine s_done ?_
    exact s_return ⟨by rw [if_pos h1], rfl⟩ (res_tmp Try.results50 rfl)
  rw [if_neg h1]
  refine s_seq ?_
  by_cases h2 : 2 ≤ o
  · by_cases h3 : o ≤ 10
    · rw [if_pos ⟨h2, h3⟩]
      refine s_region ?_
      refine s_q (y_move rfl) rfl ?_
      refine s_q (by (first | exact y_as (y_geq (n := 2) rfl rfl) (congrArg Value.bool (decide_eq_true h2)) | exact y_geq rfl rfl)) rfl ?_
      refine s_q (y_move rfl) rfl ?_
      refine s_guard2 rfl rfl (by with_reducible rfl) ?_
      refine s_q (y_move rfl) rfl ?_
      refine s_guard2 rfl rfl (by with_reducible rfl) ?_
      refine s_q (by (first | exact y_as (y_leq rfl rfl) (congrArg Value.bool (decide_eq_true h3)) | exact y_leq rfl rfl)) rfl ?_
      refine s_q (by (first | exact y_pickT rfl rfl | exact y_pickF rfl rfl)) rfl ?_
      refine s_q (y_assign rfl) rfl ?_
      refine s_done ?_
      refine s_condT2 rfl (by with_reducible rfl) ?_
      refine s_seq ?_
      refine s_region ?_
      refine s_q (y_assign rfl) rfl ?_
      refine s_done ?_
      exact s_return ⟨rfl, rfl⟩ (res_tmp Try.results50 rfl)
    · rw [if_neg (fun x => h3 x.2)]
      refine s_region ?_
      refine s_q (y_move rfl) rfl ?_
      refine s_q (by (first | exact y_as (y_geq (n := 2) rfl rfl) (congrArg Value.bool (decide_eq_true h2)) | exact y_geq rfl rfl)) rfl ?_
      refine s_q (y_move rfl) rfl ?_
      refine s_guard2 rfl rfl (by with_reducible rfl) ?_
      refine s_q (y_move rfl) rfl ?_
      refine s_guard2 rfl rfl (by with_reducible rfl) ?_
      refine s_q (by (first | exact y_as (y_leq rfl rfl) (congrArg Value.bool (decide_eq_false h3)) | exact y_leq rfl rfl)) rfl ?_
      refine s_q (by (first | exact y_pickT rfl rfl | exact y_pickF rfl rfl)) rfl ?_
      refine s_q (y_assign rfl) rfl ?_
      refine s_done ?_
      refine s_condF2 rfl (by with_reducible rfl) ?_
      refine s_seq ?_
      refine s_region ?_
      refine s_q (y_move rfl) rfl ?_
      refine s_q (by (first | exact y_eql rfl rfl | exact y_eqlB rfl rfl rfl)) rfl ?_
      refine s_q (y_assign rfl) rfl ?_
      refine s_done ?_
      refine s_cond rfl (fun h11 => ?_) (fun h11 => ?_)
      · refine s_seq ?_
        refine s_region ?_
        refine s_q (y_assign rfl) rfl ?_
        refine s_done ?_
        exact s_return ⟨by rw [if_pos h11], rfl⟩ (res_tmp Try.results50 rfl)
      rw [if_neg h11]
      refine s_seq ?_
      refine s_region ?_
      refine s_q (y_move rfl) rfl ?_
      refine s_q (by (first | exact y_eql rfl rfl | exact y_eqlB rfl rfl rfl)) rfl ?_
      refine s_q (y_assign rfl) rfl ?_
      refine s_done ?_
      refine s_cond rfl (fun h12 => ?_) (fun h12 => ?_)
      · refine s_seq ?_
        refine s_region ?_
        refine s_q (y_assign rfl) rfl ?_
        refine s_done ?_
        exact s_return ⟨by rw [if_pos h12], rfl⟩ (res_tmp Try.results50 rfl)
      rw [if_neg h12]
      refine s_seq ?_
      refine s_region ?_
      refine s_q (y_move rfl) rfl ?_
      refine s_q (by (first | exact y_eql rfl rfl | exact y_eqlB rfl rfl rfl)) rfl ?_
      refine s_q (y_assign rfl) rfl ?_
      refine s_done ?_
      refine s_cond rfl (fun h13 => ?_) (fun h13 => ?_)
      · refine s_seq ?_
        refine s_region ?_
        refine s_q (y_assign rfl) rfl ?_
        refine s_done ?_
        exact s_return ⟨by rw [if_pos h13], rfl⟩ (res_tmp Try.results50 rfl)
      rw [if_neg h13]
      refine s_seq ?_
      refine s_region ?_
      refine s_q (y_move rfl) rfl ?_
      refine s_q (by (first | exact y_eql rfl rfl | exact y_eqlB rfl rfl rfl)) rfl ?_
      refine s_q (y_assign rfl) rfl ?_
      refine s_done ?_
      refine s_cond rfl (fun h15 => ?_) (fun h15 => ?_)
      · refine s_seq ?_
        refine s_region ?_
        refine s_q (y_assign rfl) rfl ?_
        refine s_done ?_
        exact s_return ⟨by rw [if_pos h15], rfl⟩ (res_tmp Try.results50 rfl)
      rw [if_neg h15]
      refine s_seq ?_
      refine s_region ?_
      refine s_q (y_move rfl) rfl ?_
      refine s_q (by (first | exact y_eql rfl rfl | exact y_eqlB rfl rfl rfl)) rfl ?_
      refine s_q (y_assign rfl) rfl ?_
      refine s_done ?_
      refine s_cond rfl (fun h16 => ?_) (fun h16 => ?_)
      · refine s_seq ?_
        refine s_region ?_
        refine s_q (y_assign rfl) rfl ?_
        refine s_done ?_
        exact s_return ⟨by rw [if_pos h16], rfl⟩ (res_tmp Try.results50 rfl)
      rw [if_neg h16]
      refine s_seq ?_
      refine s_region ?_
      refine s_q (y_move rfl) rfl ?_
      refine s_q (by (first | exact y_eql rfl rfl | exact y_eqlB rfl rfl rfl)) rfl ?_
      refine s_q (y_assign rfl) rfl ?_
      refine s_done ?_
      refine s_cond rfl (fun h17 => ?_) (fun h17 => ?_)
      · refine s_seq ?_
        refine s_region ?_
        refine s_q (y_assign rfl) rfl ?_
        refine s_done ?_
        exact s_return ⟨by rw [if_pos h17], rfl⟩ (res_tmp Try.results50 rfl)
      rw [if_neg h17]
      refine s_skip ?_
      refine s_endb ?_
      refine s_seq ?_
      refine s_region ?_
      refine s_q (y_assign rfl) rfl ?_
      refine s_done ?_
      exact s_return ⟨rfl, rfl⟩ (res_tmp Try.results50 rfl)
  · rw [if_neg (fun x => h2 x.1)]
    refine s_region ?_
    refine s_q (y_move rfl) rfl ?_
    refine s_q (by (first | exact y_as (y_geq (n := 2) rfl rfl) (congrArg Value.bool (decide_eq_false h2)) | exact y_geq rfl rfl)) rfl ?_
    refine s_q (y_move rfl) rfl ?_
    refine s_unguard2 (b := false) rfl rfl (by with_reducible rfl) rfl rfl ?_
    refine s_unguard2 (b := false) rfl rfl (by with_reducible rfl) rfl rfl ?_
    refine s_q (by (first | exact y_pickT rfl rfl | exact y_pickF rfl rfl)) rfl ?_
    refine s_q (y_assign rfl) rfl ?_
    refine s_done ?_
    refine s_condF2 rfl (by with_reducible rfl) ?_
    refine s_seq ?_
    refine s_region ?_
    refine s_q (y_move rfl) rfl ?_
    refine s_q (by (first | exact y_eql rfl rfl | exact y_eqlB rfl rfl rfl)) rfl ?_
    refine s_q (y_assign rfl) rfl ?_
    refine s_done ?_
    refine s_cond rfl (fun h11 => ?_) (fun h11 => ?_)
    · refine s_seq ?_
      refine s_region ?_
      refine s_q (y_assign rfl) rfl ?_
      refine s_done ?_
      exact s_return ⟨by rw [if_pos h11], rfl⟩ (res_tmp Try.results50 rfl)
    rw [if_neg h11]
    refine s_seq ?_
    refine s_region ?_
    refine s_q (y_move rfl) rfl ?_
    refine s_q (by (first | exact y_eql rfl rfl | exact y_eqlB rfl rfl rfl)) rfl ?_
    refine s_q (y_assign rfl) rfl ?_
    refine s_done ?_
    refine s_cond rfl (fun h12 => ?_) (fun h12 => ?_)
    · refine s_seq ?_
      refine s_region ?_
      refine s_q (y_assign rfl) rfl ?_
      refine s_done ?_
      exact s_return ⟨by rw [if_pos h12], rfl⟩ (res_tmp Try.results50 rfl)
    rw [if_neg h12]
    refine s_seq ?_
    refine s_region ?_
    refine s_q (y_move rfl) rfl ?_
    refine s_q (by (first | exact y_eql rfl rfl | exact y_eqlB rfl rfl rfl)) rfl ?_
    refine s_q (y_assign rfl) rfl ?_
    refine s_done ?_
    refine s_cond rfl (fun h13 => ?_) (fun h13 => ?_)
    · refine s_seq ?_
      refine s_region ?_
      refine s_q (y_assign rfl) rfl ?_
      refine s_done ?_
      exact s_return ⟨by rw [if_pos h13], rfl⟩ (res_tmp Try.results50 rfl)
    rw [if_neg h13]
    refine s_seq ?_
    refine s_region ?_
    refine s_q (y_move rfl) rfl ?_
    refine s_q (by (first | exact y_eql rfl rfl | exact y_eqlB rfl rfl rfl)) rfl ?_
    refine s_q (y_assign rfl) rfl ?_
    refine s_done ?_
    refine s_cond rfl (fun h15 => ?_) (fun h15 => ?_)
    · refine s_seq ?_
      refine s_region ?_
      refine s_q (y_assign rfl) rfl ?_
      refine s_done ?_
      exact s_return ⟨by rw [if_pos h15], rfl⟩ (res_tmp Try.results50 rfl)
    rw [if_neg h15]
    refine s_seq ?_
    refine s_region ?_
    refine s_q (y_move rfl) rfl ?_
    refine s_q (by (first | exact y_eql rfl rfl | exact y_eqlB rfl rfl rfl)) rfl ?_
    refine s_q (y_assign rfl) rfl ?_
    refine s_done ?_
    refine s_cond rfl (fun h16 => ?_) (fun h16 => ?_)
    · refine s_seq ?_
      refine s_region ?_
      refine s_q (y_assign rfl) rfl ?_
      refine s_done ?_
      exact s_return ⟨by rw [if_pos h16], rfl⟩ (res_tmp Try.results50 rfl)
    rw [if_neg h16]
    refine s_seq ?_
    refine s_region ?_
    refine s_q (y_move rfl) rfl ?_
    refine s_q (by (first | exact y_eql rfl rfl | exact y_eqlB rfl rfl rfl)) rfl ?_
    refine s_q (y_assign rfl) rfl ?_
    refine s_done ?_
    refine s_cond rfl (fun h17 => ?_) (fun h17 => ?_)
    · refine s_seq ?_
      refine s_region ?_
      refine s_q (y_assign rfl) rfl ?_
      refine s_done ?_
      exact s_return ⟨by rw [if_pos h17], rfl⟩ (res_tmp Try.results50 rfl)
    rw [if_neg h17]
    refine s_skip ?_
    refine s_endb ?_
    refine s_seq ?_
    refine s_region ?_
    refine s_q (y_assign rfl) rfl ?_
    refine s_done ?_
    exact s_return ⟨rfl, rfl⟩ (res_tmp Try.results50 rfl)
theorem hasS_all {P : Nat → ByteArray → Int → Prop} (o : Int) (h1 : P 9 ⟨#[100, 105]⟩ 1) (h2 : ∀ o, 2 ≤ o → o ≤ 10 → P 7 ⟨#[100, 97, 98]⟩ o) (h3 : P 11 ⟨#[100, 97, 105]⟩ 11) (h4 : P 14 ⟨#[97, 98, 105]⟩ 12) (h5 : P 32 ⟨#[99]⟩ 13) (h6 : P 3 ⟨#[100, 97]⟩ 15) (h7 : P 18 ⟨#[97, 115]⟩ 16) (h8 : P 17 ⟨#[100, 115]⟩ 17)
    (h9 : ∀ o, o ≠ 16 → o ≠ 17 → P 0 ⟨#[]⟩ o) : P (hasP o) (hasS o) o := by
  unfold hasP hasS
  by_cases a1 : o = 1
  · subst a1; exact h1
  rw [if_neg a1, if_neg a1]
  by_cases a2 : 2 ≤ o ∧ o ≤ 10
  · rw [if_pos a2, if_pos a2]; exact h2 o a2.1 a2.2
  rw [if_neg a2, if_neg a2]
  by_cases a3 : o = 11
  · subst a3; exact h3
  rw [if_neg a3, if_neg a3]
  by_cases a4 : o = 12
  · subst a4; exact h4
  rw [if_neg a4, if_neg a4]
  by_cases a5 : o = 13
  · subst a5; exact h5
  rw [if_neg a5, if_neg a5]
  by_cases a6 : o = 15
  · subst a6; exact h6
  rw [if_neg a6, if_neg a6]
  by_cases a7 : o = 16
  · subst a7; exact h7
  rw [if_neg a7, if_neg a7]
  by_cases a8 : o = 17
  · subst a8; exact h8
  rw [if_neg a8, if_neg a8]
  exact h9 o a7 a8
theorem hasS_size (o : Int) : (hasS o).size < 10 := hasS_all (P := fun _ s _ => s.size < 10) o (by decide) (fun _ _ _ => by decide) (by decide) (by decide) (by decide) (by decide) (by decide) (by decide) (fun _ _ _ => by decide)
theorem inS_a (o : Int) : inS (hasS o) 97 = decide (hasP o &&& 2 ≠ 0) := hasS_all (P := fun p s _ => inS s 97 = decide (p &&& 2 ≠ 0)) o (by decide) (fun _ _ _ => by decide) (by decide) (by decide) (by decide) (by decide) (by decide) (by decide) (fun _ _ _ => by decide)
theorem inS_b (o : Int) : inS (hasS o) 98 = decide (hasP o &&& 4 ≠ 0) := hasS_all (P := fun p s _ => inS s 98 = decide (p &&& 4 ≠ 0)) o (by decide) (fun _ _ _ => by decide) (by decide) (by decide) (by decide) (by decide) (by decide) (by decide) (fun _ _ _ => by decide)
theorem inS_d (o : Int) : inS (hasS o) 100 = decide (hasP o &&& 1 ≠ 0) := hasS_all (P := fun p s _ => inS s 100 = decide (p &&& 1 ≠ 0)) o (by decide) (fun _ _ _ => by decide) (by decide) (by decide) (by decide) (by decide) (by decide) (by decide) (fun _ _ _ => by decide)
theorem inS_i (o : Int) : inS (hasS o) 105 = decide (hasP o &&& 8 ≠ 0) := hasS_all (P := fun p s _ => inS s 105 = decide (p &&& 8 ≠ 0)) o (by decide) (fun _ _ _ => by decide) (by decide) (by decide) (by decide) (by decide) (by decide) (by decide) (fun _ _ _ => by decide)
theorem inS_s (o : Int) : inS (hasS o) 115 = decide (hasP o &&& 16 ≠ 0) := hasS_all (P := fun p s _ => inS s 115 = decide (p &&& 16 ≠ 0)) o (by decide) (fun _ _ _ => by decide) (by decide) (by decide) (by decide) (by decide) (by decide) (by decide) (fun _ _ _ => by decide)
theorem hasS_c (o : Int) : ((hasS o).data.toList = [99]) ↔ hasP o &&& 32 ≠ 0 := hasS_all (P := fun p s _ => (s.data.toList = [99]) ↔ p &&& 32 ≠ 0) o (by decide) (fun _ _ _ => by decide) (by decide) (by decide) (by decide) (by decide) (by decide) (by decide) (fun _ _ _ => by decide)
theorem hasS_nil (o : Int) : ((hasS o).data.toList = []) ↔ hasP o = 0 := hasS_all (P := fun p s _ => (s.data.toList = []) ↔ p = 0) o (by decide) (fun _ _ _ => by decide) (by decide) (by decide) (by decide) (by decide) (by decide) (by decide) (fun _ _ _ => by decide)
theorem op_get (o : Int) : o = 17 ↔ hasP o = 17 := hasS_all (P := fun p s o => o = 17 ↔ p = 17) o (by decide) (fun _ _ _ => by omega) (by decide) (by decide) (by decide) (by decide) (by decide) (by decide) (fun _ _ _ => by omega)
theorem op_put (o : Int) : o = 16 ↔ hasP o = 18 := hasS_all (P := fun p s o => o = 16 ↔ p = 18) o (by decide) (fun _ _ _ => by omega) (by decide) (by decide) (by decide) (by decide) (by decide) (by decide) (fun _ _ _ => by omega)
end Go.Proofs.Ytgpebcfeeagoaaa
