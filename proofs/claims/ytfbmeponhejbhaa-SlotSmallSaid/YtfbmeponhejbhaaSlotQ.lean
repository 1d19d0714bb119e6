/- Layer 25 (slot): great, Pick, and the pairs in another order. -/
import Derived.Test.YtfbmeponhejbhaaSlotP
import Derived.Test.YtfbmeponhejbhaaE13
set_option linter.unusedVariables false
set_option linter.unusedSimpArgs false
namespace Go.Proofs.Ytfbmeponhejbhaa
open Go Go.E
set_option maxRecDepth 4000
set_option maxHeartbeats 4000000
theorem KE.ofS {α : Type} {sz : Nat} {enc : α → List Value} {dd : α} {base w : World} {M N : Nat → Prop} {L : List HP} {e n c : Nat} {A : Option Addr} {xs : List α} (he : ∀ x, (enc x).length = sz) (h0 : 0 < sz) (hl : ∀ w', Since w N w' → Sat base M L w') (hm : Sl e sz A n c (xs.flatMap enc) ∈ L) : KE sz enc dd w N A xs := fun w' h' i hi => by
  have hs := hl w' h'
  have hlen := flat_length he xs
  have hpos : 0 < (xs.flatMap enc).length := by rw [hlen]; exact Nat.mul_pos (by omega) h0
  obtain ⟨ad, hA, _⟩ := hs.slRd hm 0 ((xs.flatMap enc)[0]) (List.getElem?_eq_getElem hpos)
  refine ⟨ad, hA, fun j u hj => ?_⟩
  obtain ⟨ad', hA', hc⟩ := hs.slRd hm (i * sz + j) u (flat_at he dd xs i j u hi hj)
  rw [hA] at hA'; cases hA'
  exact hc
theorem great_spec (w : World) (N : Nat → Prop) (A B C : Option Addr) (c cp cr n m k : Nat) (ho : Owns w [] N) (hn : n < 1000000000000000) (hm : m < 1000000000000000) (hk : k < 1000000000000000) :
    Ret Try.prog 8 [.slice A n c, .slice B m cp, .slice C k cr] w N fun v L => v = .bool (decide (300 < (n : Int) + m + k)) ∧ L = [] := by
  refine ret_of_J cx Try.func8 rfl (Nat.le_of_ble_eq_true rfl) ho ?_
  repeat (first | (refine s_seq ?_) | (refine s_region ?_) | (refine s_done ?_) | (refine s_block ?_) | (refine s_endb ?_) | (refine s_ends ?_) | (refine s_skip ?_) | (refine s_label ?_) | (refine s_exit rfl ?_) | (refine s_condT rfl ?_) | (refine s_condF rfl ?_) | (refine s_guard rfl rfl ?_) | (refine s_unguard rfl rfl rfl rfl ?_) | (refine s_unguardU rfl rfl rfl ?_) | (refine s_scope ?_) | (refine s_q (by (first | exact y_move rfl | exact y_assign rfl | exact y_add rfl rfl (by omega) | exact y_sub rfl rfl (by omega) | exact y_lss rfl rfl | exact y_leq rfl rfl | exact y_gtr rfl rfl | exact y_geq rfl rfl | exact y_eql rfl rfl | exact y_neq rfl rfl | exact y_notT rfl | exact y_notF rfl | exact y_notp rfl | exact y_notb rfl | exact y_pickT rfl rfl | exact y_pickF rfl rfl | exact y_nilCheck rfl | exact y_fieldAddrB rfl rfl rfl rfl rfl rfl | exact y_fieldAddr rfl rfl rfl rfl rfl rfl | exact y_lenS rfl rfl rfl | exact y_ixI rfl rfl rfl rfl rfl (by assumption) rfl (by omega) (by omega) | exact y_ld rfl rfl rfl (by rfl) | exact y_ldN rfl rfl rfl (by rfl) | exact y_ldK rfl rfl rfl rfl (by assumption) (by omega) | exact y_ldI rfl rfl rfl rfl (by assumption) (by omega) (by omega) | exact y_extract rfl rfl | exact y_max rfl rfl | exact y_min rfl rfl | exact y_build rfl rfl rfl rfl | exact y_mul rfl rfl (by omega) | exact y_eqlB rfl rfl rfl | exact y_neqB rfl rfl rfl | exact y_sliceHi rfl rfl rfl (by omega) rfl rfl)) rfl ?_))
  exact s_return ⟨rfl, rfl⟩ (res_tmp Try.results8 rfl)
theorem tmod_bounds (x n : Int) (h : 0 < n) : -n < x.tmod n ∧ x.tmod n < n := by
  have h1 := Int.lt_tmod_of_pos x h
  have h2 := Int.tmod_lt_of_pos x h
  omega
theorem Pick_spec (w : World) (N : Nat → Prop) (x : Int) (n : Nat) (ho : Owns w [] N) (hn : 1 ≤ n ∧ n < 1000000000) :
    Ret Try.prog 19 [.int .i64 x, .int .i64 n] w N fun v L => (∃ k : Nat, k < n ∧ v = .int .i64 k) ∧ L = [] := by
  have hb := tmod_bounds x n (by omega)
  refine ret_of_J cx Try.func19 rfl (Nat.le_of_ble_eq_true rfl) ho ?_
  repeat (first | (refine s_seq ?_) | (refine s_region ?_) | (refine s_done ?_) | (refine s_block ?_) | (refine s_endb ?_) | (refine s_ends ?_) | (refine s_skip ?_) | (refine s_label ?_) | (refine s_exit rfl ?_) | (refine s_condT rfl ?_) | (refine s_condF rfl ?_) | (refine s_guard rfl rfl ?_) | (refine s_unguard rfl rfl rfl rfl ?_) | (refine s_unguardU rfl rfl rfl ?_) | (refine s_scope ?_) | (refine s_q (by (first | exact y_move rfl | exact y_assign rfl | exact y_add rfl rfl (by omega) | exact y_sub rfl rfl (by omega) | exact y_lss rfl rfl | exact y_leq rfl rfl | exact y_gtr rfl rfl | exact y_geq rfl rfl | exact y_eql rfl rfl | exact y_neq rfl rfl | exact y_notT rfl | exact y_notF rfl | exact y_notp rfl | exact y_notb rfl | exact y_pickT rfl rfl | exact y_pickF rfl rfl | exact y_nilCheck rfl | exact y_fieldAddrB rfl rfl rfl rfl rfl rfl | exact y_fieldAddr rfl rfl rfl rfl rfl rfl | exact y_lenS rfl rfl rfl | exact y_ixI rfl rfl rfl rfl rfl (by assumption) rfl (by omega) (by omega) | exact y_ld rfl rfl rfl (by rfl) | exact y_ldN rfl rfl rfl (by rfl) | exact y_ldK rfl rfl rfl rfl (by assumption) (by omega) | exact y_ldI rfl rfl rfl rfl (by assumption) (by omega) (by omega) | exact y_extract rfl rfl | exact y_max rfl rfl | exact y_min rfl rfl | exact y_build rfl rfl rfl rfl | exact y_mul rfl rfl (by omega) | exact y_eqlB rfl rfl rfl | exact y_neqB rfl rfl rfl | exact y_sliceHi rfl rfl rfl (by omega) rfl rfl)) rfl ?_))
  refine s_cond rfl (fun h => absurd h (by omega)) (fun h => ?_)
  repeat (first | (refine s_seq ?_) | (refine s_region ?_) | (refine s_done ?_) | (refine s_block ?_) | (refine s_endb ?_) | (refine s_ends ?_) | (refine s_skip ?_) | (refine s_label ?_) | (refine s_exit rfl ?_) | (refine s_condT rfl ?_) | (refine s_condF rfl ?_) | (refine s_guard rfl rfl ?_) | (refine s_unguard rfl rfl rfl rfl ?_) | (refine s_unguardU rfl rfl rfl ?_) | (refine s_scope ?_) | (refine s_q (by (first | exact y_remw rfl rfl (by omega) | exact y_move rfl | exact y_assign rfl | exact y_add rfl rfl (by omega) | exact y_sub rfl rfl (by omega) | exact y_lss rfl rfl | exact y_leq rfl rfl | exact y_gtr rfl rfl | exact y_geq rfl rfl | exact y_eql rfl rfl | exact y_neq rfl rfl | exact y_notT rfl | exact y_notF rfl | exact y_notp rfl | exact y_notb rfl | exact y_pickT rfl rfl | exact y_pickF rfl rfl | exact y_nilCheck rfl | exact y_fieldAddrB rfl rfl rfl rfl rfl rfl | exact y_fieldAddr rfl rfl rfl rfl rfl rfl | exact y_lenS rfl rfl rfl | exact y_ixI rfl rfl rfl rfl rfl (by assumption) rfl (by omega) (by omega) | exact y_ld rfl rfl rfl (by rfl) | exact y_ldN rfl rfl rfl (by rfl) | exact y_ldK rfl rfl rfl rfl (by assumption) (by omega) | exact y_ldI rfl rfl rfl rfl (by assumption) (by omega) (by omega) | exact y_extract rfl rfl | exact y_max rfl rfl | exact y_min rfl rfl | exact y_build rfl rfl rfl rfl | exact y_mul rfl rfl (by omega) | exact y_eqlB rfl rfl rfl | exact y_neqB rfl rfl rfl | exact y_sliceHi rfl rfl rfl (by omega) rfl rfl)) rfl ?_))
  generalize x.tmod n = q at hb ⊢
  refine s_cond rfl (fun h1 => ?_) (fun h1 => ?_)
  · repeat (first | (refine s_seq ?_) | (refine s_region ?_) | (refine s_done ?_) | (refine s_block ?_) | (refine s_endb ?_) | (refine s_ends ?_) | (refine s_skip ?_) | (refine s_label ?_) | (refine s_exit rfl ?_) | (refine s_condT rfl ?_) | (refine s_condF rfl ?_) | (refine s_guard rfl rfl ?_) | (refine s_unguard rfl rfl rfl rfl ?_) | (refine s_unguardU rfl rfl rfl ?_) | (refine s_scope ?_) | (refine s_q (by (first | exact y_move rfl | exact y_assign rfl | exact y_add rfl rfl (by omega) | exact y_sub rfl rfl (by omega) | exact y_lss rfl rfl | exact y_leq rfl rfl | exact y_gtr rfl rfl | exact y_geq rfl rfl | exact y_eql rfl rfl | exact y_neq rfl rfl | exact y_notT rfl | exact y_notF rfl | exact y_notp rfl | exact y_notb rfl | exact y_pickT rfl rfl | exact y_pickF rfl rfl | exact y_nilCheck rfl | exact y_fieldAddrB rfl rfl rfl rfl rfl rfl | exact y_fieldAddr rfl rfl rfl rfl rfl rfl | exact y_lenS rfl rfl rfl | exact y_ixI rfl rfl rfl rfl rfl (by assumption) rfl (by omega) (by omega) | exact y_ld rfl rfl rfl (by rfl) | exact y_ldN rfl rfl rfl (by rfl) | exact y_ldK rfl rfl rfl rfl (by assumption) (by omega) | exact y_ldI rfl rfl rfl rfl (by assumption) (by omega) (by omega) | exact y_extract rfl rfl | exact y_max rfl rfl | exact y_min rfl rfl | exact y_build rfl rfl rfl rfl | exact y_mul rfl rfl (by omega) | exact y_eqlB rfl rfl rfl | exact y_neqB rfl rfl rfl | exact y_sliceHi rfl rfl rfl (by omega) rfl rfl)) rfl ?_))
    exact s_return ⟨⟨(q + n).toNat, by omega, by congr 1; omega⟩, rfl⟩ (res_tmp Try.results19 rfl)
  · repeat (first | (refine s_seq ?_) | (refine s_region ?_) | (refine s_done ?_) | (refine s_block ?_) | (refine s_endb ?_) | (refine s_ends ?_) | (refine s_skip ?_) | (refine s_label ?_) | (refine s_exit rfl ?_) | (refine s_condT rfl ?_) | (refine s_condF rfl ?_) | (refine s_guard rfl rfl ?_) | (refine s_unguard rfl rfl rfl rfl ?_) | (refine s_unguardU rfl rfl rfl ?_) | (refine s_scope ?_) | (refine s_q (by (first | exact y_move rfl | exact y_assign rfl | exact y_add rfl rfl (by omega) | exact y_sub rfl rfl (by omega) | exact y_lss rfl rfl | exact y_leq rfl rfl | exact y_gtr rfl rfl | exact y_geq rfl rfl | exact y_eql rfl rfl | exact y_neq rfl rfl | exact y_notT rfl | exact y_notF rfl | exact y_notp rfl | exact y_notb rfl | exact y_pickT rfl rfl | exact y_pickF rfl rfl | exact y_nilCheck rfl | exact y_fieldAddrB rfl rfl rfl rfl rfl rfl | exact y_fieldAddr rfl rfl rfl rfl rfl rfl | exact y_lenS rfl rfl rfl | exact y_ixI rfl rfl rfl rfl rfl (by assumption) rfl (by omega) (by omega) | exact y_ld rfl rfl rfl (by rfl) | exact y_ldN rfl rfl rfl (by rfl) | exact y_ldK rfl rfl rfl rfl (by assumption) (by omega) | exact y_ldI rfl rfl rfl rfl (by assumption) (by omega) (by omega) | exact y_extract rfl rfl | exact y_max rfl rfl | exact y_min rfl rfl | exact y_build rfl rfl rfl rfl | exact y_mul rfl rfl (by omega) | exact y_eqlB rfl rfl rfl | exact y_neqB rfl rfl rfl | exact y_sliceHi rfl rfl rfl (by omega) rfl rfl)) rfl ?_))
    exact s_return ⟨⟨q.toNat, by omega, by congr 1; omega⟩, rfl⟩ (res_tmp Try.results19 rfl)
/-- The pairs from the k-th on, each told twice, turned and as it is. -/
def turnedTo (ps : List (Int × Int)) (k : Nat) (n : Nat) : List (Int × Int) := (List.range n).flatMap fun i => [((ps.getD ((i + k) % ps.length) (0, 0)).2, (ps.getD ((i + k) % ps.length) (0, 0)).1), ps.getD ((i + k) % ps.length) (0, 0)]
theorem turnedTo_succ (ps : List (Int × Int)) (k n : Nat) : turnedTo ps k (n + 1) = turnedTo ps k n ++ [((ps.getD ((n + k) % ps.length) (0, 0)).2, (ps.getD ((n + k) % ps.length) (0, 0)).1), ps.getD ((n + k) % ps.length) (0, 0)] := by
  simp [turnedTo, List.range_succ]
theorem turnedTo_length (ps : List (Int × Int)) (k : Nat) : ∀ n, (turnedTo ps k n).length = 2 * n
  | 0 => rfl
  | n + 1 => by rw [turnedTo_succ, List.length_append, turnedTo_length ps k n]; simp; omega
theorem rot (j k n : Nat) (hj : j < n) : ∃ i, i < n ∧ (i + k) % n = j := by
  have hr : k % n < n := Nat.mod_lt _ (by omega)
  by_cases h : k % n ≤ j
  · refine ⟨j - k % n, by omega, ?_⟩
    rw [Nat.add_mod, Nat.mod_eq_of_lt (show j - k % n < n by omega), Nat.sub_add_cancel h, Nat.mod_eq_of_lt hj]
  · refine ⟨j + n - k % n, by omega, ?_⟩
    rw [Nat.add_mod, Nat.mod_eq_of_lt (show j + n - k % n < n by omega), show j + n - k % n + k % n = j + n by omega, Nat.add_mod_right, Nat.mod_eq_of_lt hj]
theorem mem_turned {ps : List (Int × Int)} {k : Nat} {q : Int × Int} : q ∈ turnedTo ps k ps.length ↔ ∃ p ∈ ps, q = (p.2, p.1) ∨ q = p := by
  simp only [turnedTo, List.mem_flatMap, List.mem_range, List.mem_cons, List.not_mem_nil, or_false]
  constructor
  · rintro ⟨i, hi, h⟩
    have hlt : (i + k) % ps.length < ps.length := Nat.mod_lt _ (by omega)
    exact ⟨_, by rw [getD_eq (0, 0) ps _ hlt]; exact List.getElem_mem hlt, h⟩
  · rintro ⟨p, hp, h⟩
    obtain ⟨j, hj, rfl⟩ := List.mem_iff_getElem.1 hp
    obtain ⟨i, hi, e⟩ := rot j k ps.length hj
    exact ⟨i, hi, by rw [e, getD_eq (0, 0) ps j hj]; exact h⟩
theorem ok_turned (vs : List Int) (ps : List (Int × Int)) (k : Nat) : okArgs vs ps [] = okArgs vs (turnedTo ps k ps.length) [] := by
  unfold okArgs
  congr 1
  rw [Bool.eq_iff_iff, List.all_eq_true, List.all_eq_true]
  constructor
  · intro h q hq
    obtain ⟨p, hp, rfl | rfl⟩ := mem_turned.1 hq
    · have := h p hp
      simp only [okP, decide_eq_true_eq] at this ⊢
      exact ⟨Ne.symm this.1, this.2.2, this.2.1⟩
    · exact h _ hp
  · intro h p hp
    exact h p (mem_turned.2 ⟨p, hp, .inr rfl⟩)
theorem nbr_turned (ps : List (Int × Int)) (k : Nat) (v x : Int) : x ∈ nbr ps v ↔ x ∈ nbr (turnedTo ps k ps.length) v := by
  rw [mem_nbr, mem_nbr]
  constructor
  · rintro ⟨p, hp, h⟩
    exact ⟨p, mem_turned.2 ⟨p, hp, .inr rfl⟩, h⟩
  · rintro ⟨q, hq, h⟩
    obtain ⟨p, hp, rfl | rfl⟩ := mem_turned.1 hq
    · exact ⟨p, hp, h.symm.imp (fun a => a) (fun a => a)⟩
    · exact ⟨q, hp, h⟩
end Go.Proofs.Ytfbmeponhejbhaa
