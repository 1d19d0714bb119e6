/- Layer 25 (slot): the contract of the reference's Share. -/
import Derived.Test.YtfbmeponhejbhaaSlotL
set_option linter.unusedVariables false
set_option linter.unusedSimpArgs false
namespace Go.Proofs.Ytfbmeponhejbhaa
open Go Go.E
set_option maxRecDepth 4000
set_option maxHeartbeats 4000000
theorem refShare_spec (w : World) (N : Nat → Prop) (A H B : Option Addr) (n c nh ch cb : Nat) (t s a b : Int) (xs vs : List Int) (hn : n = xs.length) (ho : Owns w [] N) (hk : KI w N A xs) (hk2 : KI w N B vs) (hlen : vs.length < 1000000) :
    Ret Try.prog 16 [.agg #[.slice A n c, .slice H nh ch, .int .i64 t, .int .i64 s], .slice B vs.length cb, .int .i64 a, .int .i64 b] w N fun v L => v = .bool (share xs vs a b) ∧ L = [] := by
  subst hn
  refine ret_of_J cx Try.func16 rfl (Nat.le_of_ble_eq_true rfl) ho ?_
  repeat (first | (refine s_seq ?_) | (refine s_region ?_) | (refine s_done ?_) | (refine s_block ?_) | (refine s_endb ?_) | (refine s_ends ?_) | (refine s_skip ?_) | (refine s_label ?_) | (refine s_exit rfl ?_) | (refine s_condT rfl ?_) | (refine s_condF rfl ?_) | (refine s_guard rfl rfl ?_) | (refine s_unguard rfl rfl rfl rfl ?_) | (refine s_unguardU rfl rfl rfl ?_) | (refine s_scope ?_) | (refine s_q (by (first | exact y_move rfl | exact y_assign rfl | exact y_add rfl rfl (by omega) | exact y_sub rfl rfl (by omega) | exact y_lss rfl rfl | exact y_leq rfl rfl | exact y_gtr rfl rfl | exact y_geq rfl rfl | exact y_eql rfl rfl | exact y_neq rfl rfl | exact y_notT rfl | exact y_notF rfl | exact y_notp rfl | exact y_notb rfl | exact y_pickT rfl rfl | exact y_pickF rfl rfl | exact y_nilCheck rfl | exact y_fieldAddrB rfl rfl rfl rfl rfl rfl | exact y_fieldAddr rfl rfl rfl rfl rfl rfl | exact y_lenS rfl rfl rfl | exact y_ixI rfl rfl rfl rfl rfl (by assumption) rfl (by omega) (by omega) | exact y_ld rfl rfl rfl (by rfl) | exact y_ldN rfl rfl rfl (by rfl) | exact y_ldK rfl rfl rfl rfl (by assumption) (by omega) | exact y_ldI rfl rfl rfl rfl (by assumption) (by omega) (by omega) | exact y_extract rfl rfl | exact y_max rfl rfl | exact y_min rfl rfl | exact y_build rfl rfl rfl rfl | exact y_mul rfl rfl (by omega) | exact y_eqlB rfl rfl rfl | exact y_neqB rfl rfl rfl | exact y_sliceHi rfl rfl rfl (by omega) rfl rfl)) rfl ?_))
  first | (refine s_box1 rfl rfl rfl (fun bf => ?_)) | (refine s_boxA rfl rfl (fun bf => ?_))
  repeat (first | (refine s_seq ?_) | (refine s_region ?_) | (refine s_done ?_) | (refine s_block ?_) | (refine s_endb ?_) | (refine s_ends ?_) | (refine s_skip ?_) | (refine s_label ?_) | (refine s_exit rfl ?_) | (refine s_condT rfl ?_) | (refine s_condF rfl ?_) | (refine s_guard rfl rfl ?_) | (refine s_unguard rfl rfl rfl rfl ?_) | (refine s_unguardU rfl rfl rfl ?_) | (refine s_scope ?_) | (refine s_q (by (first | exact y_move rfl | exact y_assign rfl | exact y_add rfl rfl (by omega) | exact y_sub rfl rfl (by omega) | exact y_lss rfl rfl | exact y_leq rfl rfl | exact y_gtr rfl rfl | exact y_geq rfl rfl | exact y_eql rfl rfl | exact y_neq rfl rfl | exact y_notT rfl | exact y_notF rfl | exact y_notp rfl | exact y_notb rfl | exact y_pickT rfl rfl | exact y_pickF rfl rfl | exact y_nilCheck rfl | exact y_fieldAddrB rfl rfl rfl rfl rfl rfl | exact y_fieldAddr rfl rfl rfl rfl rfl rfl | exact y_lenS rfl rfl rfl | exact y_ixI rfl rfl rfl rfl rfl (by assumption) rfl (by omega) (by omega) | exact y_ld rfl rfl rfl (by rfl) | exact y_ldN rfl rfl rfl (by rfl) | exact y_ldK rfl rfl rfl rfl (by assumption) (by omega) | exact y_ldI rfl rfl rfl rfl (by assumption) (by omega) (by omega) | exact y_extract rfl rfl | exact y_max rfl rfl | exact y_min rfl rfl | exact y_build rfl rfl rfl rfl | exact y_mul rfl rfl (by omega) | exact y_eqlB rfl rfl rfl | exact y_neqB rfl rfl rfl | exact y_sliceHi rfl rfl rfl (by omega) rfl rfl)) rfl ?_))
  refine s_call (pre := []) (rem := _) rfl rfl (List.Perm.refl _) (fun w N ho hl => at_spec w N B cb vs a ho (hk2.of hl) (by omega)) rfl ?_
  rintro e L' ⟨rfl, rfl⟩
  try simp only [List.nil_append, List.cons_append, List.append_nil]
  repeat (first | (refine s_seq ?_) | (refine s_region ?_) | (refine s_done ?_) | (refine s_block ?_) | (refine s_endb ?_) | (refine s_ends ?_) | (refine s_skip ?_) | (refine s_label ?_) | (refine s_exit rfl ?_) | (refine s_condT rfl ?_) | (refine s_condF rfl ?_) | (refine s_guard rfl rfl ?_) | (refine s_unguard rfl rfl rfl rfl ?_) | (refine s_unguardU rfl rfl rfl ?_) | (refine s_scope ?_) | (refine s_q (by (first | exact y_move rfl | exact y_assign rfl | exact y_add rfl rfl (by omega) | exact y_sub rfl rfl (by omega) | exact y_lss rfl rfl | exact y_leq rfl rfl | exact y_gtr rfl rfl | exact y_geq rfl rfl | exact y_eql rfl rfl | exact y_neq rfl rfl | exact y_notT rfl | exact y_notF rfl | exact y_notp rfl | exact y_notb rfl | exact y_pickT rfl rfl | exact y_pickF rfl rfl | exact y_nilCheck rfl | exact y_fieldAddrB rfl rfl rfl rfl rfl rfl | exact y_fieldAddr rfl rfl rfl rfl rfl rfl | exact y_lenS rfl rfl rfl | exact y_ixI rfl rfl rfl rfl rfl (by assumption) rfl (by omega) (by omega) | exact y_ld rfl rfl rfl (by rfl) | exact y_ldN rfl rfl rfl (by rfl) | exact y_ldK rfl rfl rfl rfl (by assumption) (by omega) | exact y_ldI rfl rfl rfl rfl (by assumption) (by omega) (by omega) | exact y_extract rfl rfl | exact y_max rfl rfl | exact y_min rfl rfl | exact y_build rfl rfl rfl rfl | exact y_mul rfl rfl (by omega) | exact y_eqlB rfl rfl rfl | exact y_neqB rfl rfl rfl | exact y_sliceHi rfl rfl rfl (by omega) rfl rfl)) rfl ?_))
  refine s_call (pre := []) (rem := _) rfl rfl (List.Perm.refl _) (fun w N ho hl => at_spec w N B cb vs b ho (hk2.of hl) (by omega)) rfl ?_
  rintro e L' ⟨rfl, rfl⟩
  try simp only [List.nil_append, List.cons_append, List.append_nil]
  repeat (first | (refine s_seq ?_) | (refine s_region ?_) | (refine s_done ?_) | (refine s_block ?_) | (refine s_endb ?_) | (refine s_ends ?_) | (refine s_skip ?_) | (refine s_label ?_) | (refine s_exit rfl ?_) | (refine s_condT rfl ?_) | (refine s_condF rfl ?_) | (refine s_guard rfl rfl ?_) | (refine s_unguard rfl rfl rfl rfl ?_) | (refine s_unguardU rfl rfl rfl ?_) | (refine s_scope ?_) | (refine s_q (by (first | exact y_move rfl | exact y_assign rfl | exact y_add rfl rfl (by omega) | exact y_sub rfl rfl (by omega) | exact y_lss rfl rfl | exact y_leq rfl rfl | exact y_gtr rfl rfl | exact y_geq rfl rfl | exact y_eql rfl rfl | exact y_neq rfl rfl | exact y_notT rfl | exact y_notF rfl | exact y_notp rfl | exact y_notb rfl | exact y_pickT rfl rfl | exact y_pickF rfl rfl | exact y_nilCheck rfl | exact y_fieldAddrB rfl rfl rfl rfl rfl rfl | exact y_fieldAddr rfl rfl rfl rfl rfl rfl | exact y_lenS rfl rfl rfl | exact y_ixI rfl rfl rfl rfl rfl (by assumption) rfl (by omega) (by omega) | exact y_ld rfl rfl rfl (by rfl) | exact y_ldN rfl rfl rfl (by rfl) | exact y_ldK rfl rfl rfl rfl (by assumption) (by omega) | exact y_ldI rfl rfl rfl rfl (by assumption) (by omega) (by omega) | exact y_extract rfl rfl | exact y_max rfl rfl | exact y_min rfl rfl | exact y_build rfl rfl rfl rfl | exact y_mul rfl rfl (by omega) | exact y_eqlB rfl rfl rfl | exact y_neqB rfl rfl rfl | exact y_sliceHi rfl rfl rfl (by omega) rfl rfl)) rfl ?_))
  have l1 := atI_lt vs a 0 (Int.le_refl 0)
  have l2 := atI_lt vs b 0 (Int.le_refl 0)
  by_cases h0 : (xs.length : Int) = (vs.length : Int)
  · skip
    by_cases h1 : a ≠ b
    · skip
      by_cases h2 : atI vs a 0 ≥ 0
      · skip
        by_cases h3 : atI vs b 0 ≥ 0
        · skip
          refine d_start ?_
          refine d_take 0 rfl (by kernel_rfl) (by (first | exact y_fieldAddrB rfl rfl rfl rfl rfl rfl | exact y_fieldAddr rfl rfl rfl rfl rfl rfl)) rfl ?_
          refine d_take 1 rfl (by kernel_rfl) (by (first | exact y_ld rfl rfl rfl (by rfl) | exact y_ldN rfl rfl rfl (by rfl) | exact y_ldK rfl rfl rfl rfl (by assumption) (by omega) | exact y_ldI rfl rfl rfl rfl (by assumption) (by omega) (by omega))) rfl ?_
          refine d_take 2 rfl (by kernel_rfl) (by exact y_lenS rfl rfl rfl) rfl ?_
          refine d_take 3 rfl (by kernel_rfl) (by exact y_move rfl) rfl ?_
          refine d_take 4 rfl (by kernel_rfl) (by exact y_lenS rfl rfl rfl) rfl ?_
          refine d_take 5 rfl (by kernel_rfl) (by (first | exact y_as (y_eql rfl rfl) (congrArg Value.bool (decide_eq_true h0)) | exact y_eql rfl rfl | exact y_eqlB rfl rfl rfl)) rfl ?_
          refine d_take 6 rfl (by kernel_rfl) (by exact y_move rfl) rfl ?_
          refine d_takeG 7 rfl (by kernel_rfl) rfl rfl (by exact y_move rfl) rfl ?_
          refine d_takeG 8 rfl (by kernel_rfl) rfl rfl (by exact y_move rfl) rfl ?_
          refine d_takeG 9 rfl (by kernel_rfl) rfl rfl (by (first | exact y_as (y_neq rfl rfl) (congrArg Value.bool (decide_eq_true h1)) | exact y_neq rfl rfl | exact y_neqB rfl rfl rfl)) rfl ?_
          refine d_take 10 rfl (by kernel_rfl) (by (first | exact y_pickT rfl rfl | exact y_pickF rfl rfl)) rfl ?_
          refine d_take 11 rfl (by kernel_rfl) (by exact y_move rfl) rfl ?_
          refine d_takeG 12 rfl (by kernel_rfl) rfl rfl (by exact y_move rfl) rfl ?_
          refine d_takeG 13 rfl (by kernel_rfl) rfl rfl (by (first | exact y_as (y_geq rfl rfl) (congrArg Value.bool (decide_eq_true h2)) | exact y_as (y_geq rfl rfl) (congrArg Value.bool (decide_eq_true h3)) | exact y_geq rfl rfl)) rfl ?_
          refine d_take 14 rfl (by kernel_rfl) (by (first | exact y_pickT rfl rfl | exact y_pickF rfl rfl)) rfl ?_
          refine d_take 15 rfl (by kernel_rfl) (by exact y_move rfl) rfl ?_
          refine d_takeG 16 rfl (by kernel_rfl) rfl rfl (by exact y_move rfl) rfl ?_
          refine d_takeG 17 rfl (by kernel_rfl) rfl rfl (by (first | exact y_as (y_geq rfl rfl) (congrArg Value.bool (decide_eq_true h2)) | exact y_as (y_geq rfl rfl) (congrArg Value.bool (decide_eq_true h3)) | exact y_geq rfl rfl)) rfl ?_
          refine d_take 18 rfl (by kernel_rfl) (by (first | exact y_pickT rfl rfl | exact y_pickF rfl rfl)) rfl ?_
          refine d_take 19 rfl (by kernel_rfl) (by exact y_move rfl) rfl ?_
          refine d_takeG 20 rfl (by kernel_rfl) rfl rfl (by (first | exact y_fieldAddrB rfl rfl rfl rfl rfl rfl | exact y_fieldAddr rfl rfl rfl rfl rfl rfl)) rfl ?_
          refine d_takeG 21 rfl (by kernel_rfl) rfl rfl (by (first | exact y_ld rfl rfl rfl (by rfl) | exact y_ldN rfl rfl rfl (by rfl) | exact y_ldK rfl rfl rfl rfl (by assumption) (by omega) | exact y_ldI rfl rfl rfl rfl (by assumption) (by omega) (by omega))) rfl ?_
          refine d_takeG 22 rfl (by kernel_rfl) rfl rfl (by exact y_move rfl) rfl ?_
          refine d_takeG 23 rfl (by kernel_rfl) rfl rfl (by exact y_ixI rfl rfl rfl rfl rfl (by assumption) rfl (by omega) (by omega)) rfl ?_
          refine d_takeG 24 rfl (by kernel_rfl) rfl rfl (by (first | exact y_ld rfl rfl rfl (by rfl) | exact y_ldN rfl rfl rfl (by rfl) | exact y_ldK rfl rfl rfl rfl (by assumption) (by omega) | exact y_ldI rfl rfl rfl rfl (by assumption) (by omega) (by omega))) rfl ?_
          refine d_takeG 25 rfl (by kernel_rfl) rfl rfl (by (first | exact y_fieldAddrB rfl rfl rfl rfl rfl rfl | exact y_fieldAddr rfl rfl rfl rfl rfl rfl)) rfl ?_
          refine d_takeG 26 rfl (by kernel_rfl) rfl rfl (by (first | exact y_ld rfl rfl rfl (by rfl) | exact y_ldN rfl rfl rfl (by rfl) | exact y_ldK rfl rfl rfl rfl (by assumption) (by omega) | exact y_ldI rfl rfl rfl rfl (by assumption) (by omega) (by omega))) rfl ?_
          refine d_takeG 27 rfl (by kernel_rfl) rfl rfl (by exact y_move rfl) rfl ?_
          refine d_takeG 28 rfl (by kernel_rfl) rfl rfl (by exact y_ixI rfl rfl rfl rfl rfl (by assumption) rfl (by omega) (by omega)) rfl ?_
          refine d_takeG 29 rfl (by kernel_rfl) rfl rfl (by (first | exact y_ld rfl rfl rfl (by rfl) | exact y_ldN rfl rfl rfl (by rfl) | exact y_ldK rfl rfl rfl rfl (by assumption) (by omega) | exact y_ldI rfl rfl rfl rfl (by assumption) (by omega) (by omega))) rfl ?_
          refine d_takeG 30 rfl (by kernel_rfl) rfl rfl (by (first | exact y_as (y_eql rfl rfl) (congrArg Value.bool (decide_eq_true h0)) | exact y_eql rfl rfl | exact y_eqlB rfl rfl rfl)) rfl ?_
          refine d_take 31 rfl (by kernel_rfl) (by (first | exact y_pickT rfl rfl | exact y_pickF rfl rfl)) rfl ?_
          refine d_take 32 rfl (by kernel_rfl) (by exact y_assign rfl) rfl ?_
          refine d_done (by kernel_rfl) ?_
          repeat (first | (refine s_seq ?_) | (refine s_region ?_) | (refine s_done ?_) | (refine s_block ?_) | (refine s_endb ?_) | (refine s_ends ?_) | (refine s_skip ?_) | (refine s_label ?_) | (refine s_exit rfl ?_) | (refine s_condT rfl ?_) | (refine s_condF rfl ?_) | (refine s_guard rfl rfl ?_) | (refine s_unguard rfl rfl rfl rfl ?_) | (refine s_unguardU rfl rfl rfl ?_) | (refine s_scope ?_) | (refine s_q (by (first | exact y_move rfl | exact y_assign rfl | exact y_add rfl rfl (by omega) | exact y_sub rfl rfl (by omega) | exact y_lss rfl rfl | exact y_leq rfl rfl | exact y_gtr rfl rfl | exact y_geq rfl rfl | exact y_eql rfl rfl | exact y_neq rfl rfl | exact y_notT rfl | exact y_notF rfl | exact y_notp rfl | exact y_notb rfl | exact y_pickT rfl rfl | exact y_pickF rfl rfl | exact y_nilCheck rfl | exact y_fieldAddrB rfl rfl rfl rfl rfl rfl | exact y_fieldAddr rfl rfl rfl rfl rfl rfl | exact y_lenS rfl rfl rfl | exact y_ixI rfl rfl rfl rfl rfl (by assumption) rfl (by omega) (by omega) | exact y_ld rfl rfl rfl (by rfl) | exact y_ldN rfl rfl rfl (by rfl) | exact y_ldK rfl rfl rfl rfl (by assumption) (by omega) | exact y_ldI rfl rfl rfl rfl (by assumption) (by omega) (by omega) | exact y_extract rfl rfl | exact y_max rfl rfl | exact y_min rfl rfl | exact y_build rfl rfl rfl rfl | exact y_mul rfl rfl (by omega) | exact y_eqlB rfl rfl rfl | exact y_neqB rfl rfl rfl | exact y_sliceHi rfl rfl rfl (by omega) rfl rfl)) rfl ?_))
          refine s_return ⟨?_, rfl⟩ (res_tmp Try.results16 rfl)
          congr 1
          exact decide_eq_decide.2 ⟨fun x => ⟨by omega, h1, by omega, by omega, x⟩, fun x => x.2.2.2.2⟩
        · skip
          refine d_start ?_
          refine d_take 0 rfl (by kernel_rfl) (by (first | exact y_fieldAddrB rfl rfl rfl rfl rfl rfl | exact y_fieldAddr rfl rfl rfl rfl rfl rfl)) rfl ?_
          refine d_take 1 rfl (by kernel_rfl) (by (first | exact y_ld rfl rfl rfl (by rfl) | exact y_ldN rfl rfl rfl (by rfl) | exact y_ldK rfl rfl rfl rfl (by assumption) (by omega) | exact y_ldI rfl rfl rfl rfl (by assumption) (by omega) (by omega))) rfl ?_
          refine d_take 2 rfl (by kernel_rfl) (by exact y_lenS rfl rfl rfl) rfl ?_
          refine d_take 3 rfl (by kernel_rfl) (by exact y_move rfl) rfl ?_
          refine d_take 4 rfl (by kernel_rfl) (by exact y_lenS rfl rfl rfl) rfl ?_
          refine d_take 5 rfl (by kernel_rfl) (by (first | exact y_as (y_eql rfl rfl) (congrArg Value.bool (decide_eq_true h0)) | exact y_eql rfl rfl | exact y_eqlB rfl rfl rfl)) rfl ?_
          refine d_take 6 rfl (by kernel_rfl) (by exact y_move rfl) rfl ?_
          refine d_takeG 7 rfl (by kernel_rfl) rfl rfl (by exact y_move rfl) rfl ?_
          refine d_takeG 8 rfl (by kernel_rfl) rfl rfl (by exact y_move rfl) rfl ?_
          refine d_takeG 9 rfl (by kernel_rfl) rfl rfl (by (first | exact y_as (y_neq rfl rfl) (congrArg Value.bool (decide_eq_true h1)) | exact y_neq rfl rfl | exact y_neqB rfl rfl rfl)) rfl ?_
          refine d_take 10 rfl (by kernel_rfl) (by (first | exact y_pickT rfl rfl | exact y_pickF rfl rfl)) rfl ?_
          refine d_take 11 rfl (by kernel_rfl) (by exact y_move rfl) rfl ?_
          refine d_takeG 12 rfl (by kernel_rfl) rfl rfl (by exact y_move rfl) rfl ?_
          refine d_takeG 13 rfl (by kernel_rfl) rfl rfl (by (first | exact y_as (y_geq rfl rfl) (congrArg Value.bool (decide_eq_true h2)) | exact y_as (y_geq rfl rfl) (congrArg Value.bool (decide_eq_false h3)) | exact y_geq rfl rfl)) rfl ?_
          refine d_take 14 rfl (by kernel_rfl) (by (first | exact y_pickT rfl rfl | exact y_pickF rfl rfl)) rfl ?_
          refine d_take 15 rfl (by kernel_rfl) (by exact y_move rfl) rfl ?_
          refine d_takeG 16 rfl (by kernel_rfl) rfl rfl (by exact y_move rfl) rfl ?_
          refine d_takeG 17 rfl (by kernel_rfl) rfl rfl (by (first | exact y_as (y_geq rfl rfl) (congrArg Value.bool (decide_eq_true h2)) | exact y_as (y_geq rfl rfl) (congrArg Value.bool (decide_eq_false h3)) | exact y_geq rfl rfl)) rfl ?_
          refine d_take 18 rfl (by kernel_rfl) (by (first | exact y_pickT rfl rfl | exact y_pickF rfl rfl)) rfl ?_
          refine d_take 19 rfl (by kernel_rfl) (by exact y_move rfl) rfl ?_
          refine d_skip 20 rfl (by kernel_rfl) (fun c e => by cases e) rfl rfl rfl rfl ?_
          refine d_skip 21 rfl (by kernel_rfl) (fun c e => by cases e) rfl rfl rfl rfl ?_
          refine d_skip 22 rfl (by kernel_rfl) (fun c e => by cases e) rfl rfl rfl rfl ?_
          refine d_skip 23 rfl (by kernel_rfl) (fun c e => by cases e) rfl rfl rfl rfl ?_
          refine d_skip 24 rfl (by kernel_rfl) (fun c e => by cases e) rfl rfl rfl rfl ?_
          refine d_skip 25 rfl (by kernel_rfl) (fun c e => by cases e) rfl rfl rfl rfl ?_
          refine d_skip 26 rfl (by kernel_rfl) (fun c e => by cases e) rfl rfl rfl rfl ?_
          refine d_skip 27 rfl (by kernel_rfl) (fun c e => by cases e) rfl rfl rfl rfl ?_
          refine d_skip 28 rfl (by kernel_rfl) (fun c e => by cases e) rfl rfl rfl rfl ?_
          refine d_skip 29 rfl (by kernel_rfl) (fun c e => by cases e) rfl rfl rfl rfl ?_
          refine d_skip 30 rfl (by kernel_rfl) (fun c e => by cases e) rfl rfl rfl rfl ?_
          refine d_take 31 rfl (by kernel_rfl) (by (first | exact y_pickT rfl rfl | exact y_pickF rfl rfl)) rfl ?_
          refine d_take 32 rfl (by kernel_rfl) (by exact y_assign rfl) rfl ?_
          refine d_done (by kernel_rfl) ?_
          repeat (first | (refine s_seq ?_) | (refine s_region ?_) | (refine s_done ?_) | (refine s_block ?_) | (refine s_endb ?_) | (refine s_ends ?_) | (refine s_skip ?_) | (refine s_label ?_) | (refine s_exit rfl ?_) | (refine s_condT rfl ?_) | (refine s_condF rfl ?_) | (refine s_guard rfl rfl ?_) | (refine s_unguard rfl rfl rfl rfl ?_) | (refine s_unguardU rfl rfl rfl ?_) | (refine s_scope ?_) | (refine s_q (by (first | exact y_move rfl | exact y_assign rfl | exact y_add rfl rfl (by omega) | exact y_sub rfl rfl (by omega) | exact y_lss rfl rfl | exact y_leq rfl rfl | exact y_gtr rfl rfl | exact y_geq rfl rfl | exact y_eql rfl rfl | exact y_neq rfl rfl | exact y_notT rfl | exact y_notF rfl | exact y_notp rfl | exact y_notb rfl | exact y_pickT rfl rfl | exact y_pickF rfl rfl | exact y_nilCheck rfl | exact y_fieldAddrB rfl rfl rfl rfl rfl rfl | exact y_fieldAddr rfl rfl rfl rfl rfl rfl | exact y_lenS rfl rfl rfl | exact y_ixI rfl rfl rfl rfl rfl (by assumption) rfl (by omega) (by omega) | exact y_ld rfl rfl rfl (by rfl) | exact y_ldN rfl rfl rfl (by rfl) | exact y_ldK rfl rfl rfl rfl (by assumption) (by omega) | exact y_ldI rfl rfl rfl rfl (by assumption) (by omega) (by omega) | exact y_extract rfl rfl | exact y_max rfl rfl | exact y_min rfl rfl | exact y_build rfl rfl rfl rfl | exact y_mul rfl rfl (by omega) | exact y_eqlB rfl rfl rfl | exact y_neqB rfl rfl rfl | exact y_sliceHi rfl rfl rfl (by omega) rfl rfl)) rfl ?_))
          refine s_return ⟨?_, rfl⟩ (res_tmp Try.results16 rfl)
          congr 1
          exact (decide_eq_false (fun x => h3 x.2.2.2.1)).symm
      · skip
        refine d_start ?_
        refine d_take 0 rfl (by kernel_rfl) (by (first | exact y_fieldAddrB rfl rfl rfl rfl rfl rfl | exact y_fieldAddr rfl rfl rfl rfl rfl rfl)) rfl ?_
        refine d_take 1 rfl (by kernel_rfl) (by (first | exact y_ld rfl rfl rfl (by rfl) | exact y_ldN rfl rfl rfl (by rfl) | exact y_ldK rfl rfl rfl rfl (by assumption) (by omega) | exact y_ldI rfl rfl rfl rfl (by assumption) (by omega) (by omega))) rfl ?_
        refine d_take 2 rfl (by kernel_rfl) (by exact y_lenS rfl rfl rfl) rfl ?_
        refine d_take 3 rfl (by kernel_rfl) (by exact y_move rfl) rfl ?_
        refine d_take 4 rfl (by kernel_rfl) (by exact y_lenS rfl rfl rfl) rfl ?_
        refine d_take 5 rfl (by kernel_rfl) (by (first | exact y_as (y_eql rfl rfl) (congrArg Value.bool (decide_eq_true h0)) | exact y_eql rfl rfl | exact y_eqlB rfl rfl rfl)) rfl ?_
        refine d_take 6 rfl (by kernel_rfl) (by exact y_move rfl) rfl ?_
        refine d_takeG 7 rfl (by kernel_rfl) rfl rfl (by exact y_move rfl) rfl ?_
        refine d_takeG 8 rfl (by kernel_rfl) rfl rfl (by exact y_move rfl) rfl ?_
        refine d_takeG 9 rfl (by kernel_rfl) rfl rfl (by (first | exact y_as (y_neq rfl rfl) (congrArg Value.bool (decide_eq_true h1)) | exact y_neq rfl rfl | exact y_neqB rfl rfl rfl)) rfl ?_
        refine d_take 10 rfl (by kernel_rfl) (by (first | exact y_pickT rfl rfl | exact y_pickF rfl rfl)) rfl ?_
        refine d_take 11 rfl (by kernel_rfl) (by exact y_move rfl) rfl ?_
        refine d_takeG 12 rfl (by kernel_rfl) rfl rfl (by exact y_move rfl) rfl ?_
        refine d_takeG 13 rfl (by kernel_rfl) rfl rfl (by (first | exact y_as (y_geq rfl rfl) (congrArg Value.bool (decide_eq_false h2)) | exact y_geq rfl rfl)) rfl ?_
        refine d_take 14 rfl (by kernel_rfl) (by (first | exact y_pickT rfl rfl | exact y_pickF rfl rfl)) rfl ?_
        refine d_take 15 rfl (by kernel_rfl) (by exact y_move rfl) rfl ?_
        refine d_skip 16 rfl (by kernel_rfl) (fun c e => by cases e) rfl rfl rfl rfl ?_
        refine d_skip 17 rfl (by kernel_rfl) (fun c e => by cases e) rfl rfl rfl rfl ?_
        refine d_take 18 rfl (by kernel_rfl) (by (first | exact y_pickT rfl rfl | exact y_pickF rfl rfl)) rfl ?_
        refine d_take 19 rfl (by kernel_rfl) (by exact y_move rfl) rfl ?_
        refine d_skip 20 rfl (by kernel_rfl) (fun c e => by cases e) rfl rfl rfl rfl ?_
        refine d_skip 21 rfl (by kernel_rfl) (fun c e => by cases e) rfl rfl rfl rfl ?_
        refine d_skip 22 rfl (by kernel_rfl) (fun c e => by cases e) rfl rfl rfl rfl ?_
        refine d_skip 23 rfl (by kernel_rfl) (fun c e => by cases e) rfl rfl rfl rfl ?_
        refine d_skip 24 rfl (by kernel_rfl) (fun c e => by cases e) rfl rfl rfl rfl ?_
        refine d_skip 25 rfl (by kernel_rfl) (fun c e => by cases e) rfl rfl rfl rfl ?_
        refine d_skip 26 rfl (by kernel_rfl) (fun c e => by cases e) rfl rfl rfl rfl ?_
        refine d_skip 27 rfl (by kernel_rfl) (fun c e => by cases e) rfl rfl rfl rfl ?_
        refine d_skip 28 rfl (by kernel_rfl) (fun c e => by cases e) rfl rfl rfl rfl ?_
        refine d_skip 29 rfl (by kernel_rfl) (fun c e => by cases e) rfl rfl rfl rfl ?_
        refine d_skip 30 rfl (by kernel_rfl) (fun c e => by cases e) rfl rfl rfl rfl ?_
        refine d_take 31 rfl (by kernel_rfl) (by (first | exact y_pickT rfl rfl | exact y_pickF rfl rfl)) rfl ?_
        refine d_take 32 rfl (by kernel_rfl) (by exact y_assign rfl) rfl ?_
        refine d_done (by kernel_rfl) ?_
        repeat (first | (refine s_seq ?_) | (refine s_region ?_) | (refine s_done ?_) | (refine s_block ?_) | (refine s_endb ?_) | (refine s_ends ?_) | (refine s_skip ?_) | (refine s_label ?_) | (refine s_exit rfl ?_) | (refine s_condT rfl ?_) | (refine s_condF rfl ?_) | (refine s_guard rfl rfl ?_) | (refine s_unguard rfl rfl rfl rfl ?_) | (refine s_unguardU rfl rfl rfl ?_) | (refine s_scope ?_) | (refine s_q (by (first | exact y_move rfl | exact y_assign rfl | exact y_add rfl rfl (by omega) | exact y_sub rfl rfl (by omega) | exact y_lss rfl rfl | exact y_leq rfl rfl | exact y_gtr rfl rfl | exact y_geq rfl rfl | exact y_eql rfl rfl | exact y_neq rfl rfl | exact y_notT rfl | exact y_notF rfl | exact y_notp rfl | exact y_notb rfl | exact y_pickT rfl rfl | exact y_pickF rfl rfl | exact y_nilCheck rfl | exact y_fieldAddrB rfl rfl rfl rfl rfl rfl | exact y_fieldAddr rfl rfl rfl rfl rfl rfl | exact y_lenS rfl rfl rfl | exact y_ixI rfl rfl rfl rfl rfl (by assumption) rfl (by omega) (by omega) | exact y_ld rfl rfl rfl (by rfl) | exact y_ldN rfl rfl rfl (by rfl) | exact y_ldK rfl rfl rfl rfl (by assumption) (by omega) | exact y_ldI rfl rfl rfl rfl (by assumption) (by omega) (by omega) | exact y_extract rfl rfl | exact y_max rfl rfl | exact y_min rfl rfl | exact y_build rfl rfl rfl rfl | exact y_mul rfl rfl (by omega) | exact y_eqlB rfl rfl rfl | exact y_neqB rfl rfl rfl | exact y_sliceHi rfl rfl rfl (by omega) rfl rfl)) rfl ?_))
        refine s_return ⟨?_, rfl⟩ (res_tmp Try.results16 rfl)
        congr 1
        exact (decide_eq_false (fun x => h2 x.2.2.1)).symm
    · skip
      refine d_start ?_
      refine d_take 0 rfl (by kernel_rfl) (by (first | exact y_fieldAddrB rfl rfl rfl rfl rfl rfl | exact y_fieldAddr rfl rfl rfl rfl rfl rfl)) rfl ?_
      refine d_take 1 rfl (by kernel_rfl) (by (first | exact y_ld rfl rfl rfl (by rfl) | exact y_ldN rfl rfl rfl (by rfl) | exact y_ldK rfl rfl rfl rfl (by assumption) (by omega) | exact y_ldI rfl rfl rfl rfl (by assumption) (by omega) (by omega))) rfl ?_
      refine d_take 2 rfl (by kernel_rfl) (by exact y_lenS rfl rfl rfl) rfl ?_
      refine d_take 3 rfl (by kernel_rfl) (by exact y_move rfl) rfl ?_
      refine d_take 4 rfl (by kernel_rfl) (by exact y_lenS rfl rfl rfl) rfl ?_
      refine d_take 5 rfl (by kernel_rfl) (by (first | exact y_as (y_eql rfl rfl) (congrArg Value.bool (decide_eq_true h0)) | exact y_eql rfl rfl | exact y_eqlB rfl rfl rfl)) rfl ?_
      refine d_take 6 rfl (by kernel_rfl) (by exact y_move rfl) rfl ?_
      refine d_takeG 7 rfl (by kernel_rfl) rfl rfl (by exact y_move rfl) rfl ?_
      refine d_takeG 8 rfl (by kernel_rfl) rfl rfl (by exact y_move rfl) rfl ?_
      refine d_takeG 9 rfl (by kernel_rfl) rfl rfl (by (first | exact y_as (y_neq rfl rfl) (congrArg Value.bool (decide_eq_false h1)) | exact y_neq rfl rfl | exact y_neqB rfl rfl rfl)) rfl ?_
      refine d_take 10 rfl (by kernel_rfl) (by (first | exact y_pickT rfl rfl | exact y_pickF rfl rfl)) rfl ?_
      refine d_take 11 rfl (by kernel_rfl) (by exact y_move rfl) rfl ?_
      refine d_skip 12 rfl (by kernel_rfl) (fun c e => by cases e) rfl rfl rfl rfl ?_
      refine d_skip 13 rfl (by kernel_rfl) (fun c e => by cases e) rfl rfl rfl rfl ?_
      refine d_take 14 rfl (by kernel_rfl) (by (first | exact y_pickT rfl rfl | exact y_pickF rfl rfl)) rfl ?_
      refine d_take 15 rfl (by kernel_rfl) (by exact y_move rfl) rfl ?_
      refine d_skip 16 rfl (by kernel_rfl) (fun c e => by cases e) rfl rfl rfl rfl ?_
      refine d_skip 17 rfl (by kernel_rfl) (fun c e => by cases e) rfl rfl rfl rfl ?_
      refine d_take 18 rfl (by kernel_rfl) (by (first | exact y_pickT rfl rfl | exact y_pickF rfl rfl)) rfl ?_
      refine d_take 19 rfl (by kernel_rfl) (by exact y_move rfl) rfl ?_
      refine d_skip 20 rfl (by kernel_rfl) (fun c e => by cases e) rfl rfl rfl rfl ?_
      refine d_skip 21 rfl (by kernel_rfl) (fun c e => by cases e) rfl rfl rfl rfl ?_
      refine d_skip 22 rfl (by kernel_rfl) (fun c e => by cases e) rfl rfl rfl rfl ?_
      refine d_skip 23 rfl (by kernel_rfl) (fun c e => by cases e) rfl rfl rfl rfl ?_
      refine d_skip 24 rfl (by kernel_rfl) (fun c e => by cases e) rfl rfl rfl rfl ?_
      refine d_skip 25 rfl (by kernel_rfl) (fun c e => by cases e) rfl rfl rfl rfl ?_
      refine d_skip 26 rfl (by kernel_rfl) (fun c e => by cases e) rfl rfl rfl rfl ?_
      refine d_skip 27 rfl (by kernel_rfl) (fun c e => by cases e) rfl rfl rfl rfl ?_
      refine d_skip 28 rfl (by kernel_rfl) (fun c e => by cases e) rfl rfl rfl rfl ?_
      refine d_skip 29 rfl (by kernel_rfl) (fun c e => by cases e) rfl rfl rfl rfl ?_
      refine d_skip 30 rfl (by kernel_rfl) (fun c e => by cases e) rfl rfl rfl rfl ?_
      refine d_take 31 rfl (by kernel_rfl) (by (first | exact y_pickT rfl rfl | exact y_pickF rfl rfl)) rfl ?_
      refine d_take 32 rfl (by kernel_rfl) (by exact y_assign rfl) rfl ?_
      refine d_done (by kernel_rfl) ?_
      repeat (first | (refine s_seq ?_) | (refine s_region ?_) | (refine s_done ?_) | (refine s_block ?_) | (refine s_endb ?_) | (refine s_ends ?_) | (refine s_skip ?_) | (refine s_label ?_) | (refine s_exit rfl ?_) | (refine s_condT rfl ?_) | (refine s_condF rfl ?_) | (refine s_guard rfl rfl ?_) | (refine s_unguard rfl rfl rfl rfl ?_) | (refine s_unguardU rfl rfl rfl ?_) | (refine s_scope ?_) | (refine s_q (by (first | exact y_move rfl | exact y_assign rfl | exact y_add rfl rfl (by omega) | exact y_sub rfl rfl (by omega) | exact y_lss rfl rfl | exact y_leq rfl rfl | exact y_gtr rfl rfl | exact y_geq rfl rfl | exact y_eql rfl rfl | exact y_neq rfl rfl | exact y_notT rfl | exact y_notF rfl | exact y_notp rfl | exact y_notb rfl | exact y_pickT rfl rfl | exact y_pickF rfl rfl | exact y_nilCheck rfl | exact y_fieldAddrB rfl rfl rfl rfl rfl rfl | exact y_fieldAddr rfl rfl rfl rfl rfl rfl | exact y_lenS rfl rfl rfl | exact y_ixI rfl rfl rfl rfl rfl (by assumption) rfl (by omega) (by omega) | exact y_ld rfl rfl rfl (by rfl) | exact y_ldN rfl rfl rfl (by rfl) | exact y_ldK rfl rfl rfl rfl (by assumption) (by omega) | exact y_ldI rfl rfl rfl rfl (by assumption) (by omega) (by omega) | exact y_extract rfl rfl | exact y_max rfl rfl | exact y_min rfl rfl | exact y_build rfl rfl rfl rfl | exact y_mul rfl rfl (by omega) | exact y_eqlB rfl rfl rfl | exact y_neqB rfl rfl rfl | exact y_sliceHi rfl rfl rfl (by omega) rfl rfl)) rfl ?_))
      refine s_return ⟨?_, rfl⟩ (res_tmp Try.results16 rfl)
      congr 1
      exact (decide_eq_false (fun x => h1 x.2.1)).symm
  · skip
    refine d_start ?_
    refine d_take 0 rfl (by kernel_rfl) (by (first | exact y_fieldAddrB rfl rfl rfl rfl rfl rfl | exact y_fieldAddr rfl rfl rfl rfl rfl rfl)) rfl ?_
    refine d_take 1 rfl (by kernel_rfl) (by (first | exact y_ld rfl rfl rfl (by rfl) | exact y_ldN rfl rfl rfl (by rfl) | exact y_ldK rfl rfl rfl rfl (by assumption) (by omega) | exact y_ldI rfl rfl rfl rfl (by assumption) (by omega) (by omega))) rfl ?_
    refine d_take 2 rfl (by kernel_rfl) (by exact y_lenS rfl rfl rfl) rfl ?_
    refine d_take 3 rfl (by kernel_rfl) (by exact y_move rfl) rfl ?_
    refine d_take 4 rfl (by kernel_rfl) (by exact y_lenS rfl rfl rfl) rfl ?_
    refine d_take 5 rfl (by kernel_rfl) (by (first | exact y_as (y_eql rfl rfl) (congrArg Value.bool (decide_eq_false h0)) | exact y_eql rfl rfl | exact y_eqlB rfl rfl rfl)) rfl ?_
    refine d_take 6 rfl (by kernel_rfl) (by exact y_move rfl) rfl ?_
    refine d_skip 7 rfl (by kernel_rfl) (fun c e => by cases e) rfl rfl rfl rfl ?_
    refine d_skip 8 rfl (by kernel_rfl) (fun c e => by cases e) rfl rfl rfl rfl ?_
    refine d_skip 9 rfl (by kernel_rfl) (fun c e => by cases e) rfl rfl rfl rfl ?_
    refine d_take 10 rfl (by kernel_rfl) (by (first | exact y_pickT rfl rfl | exact y_pickF rfl rfl)) rfl ?_
    refine d_take 11 rfl (by kernel_rfl) (by exact y_move rfl) rfl ?_
    refine d_skip 12 rfl (by kernel_rfl) (fun c e => by cases e) rfl rfl rfl rfl ?_
    refine d_skip 13 rfl (by kernel_rfl) (fun c e => by cases e) rfl rfl rfl rfl ?_
    refine d_take 14 rfl (by kernel_rfl) (by (first | exact y_pickT rfl rfl | exact y_pickF rfl rfl)) rfl ?_
    refine d_take 15 rfl (by kernel_rfl) (by exact y_move rfl) rfl ?_
    refine d_skip 16 rfl (by kernel_rfl) (fun c e => by cases e) rfl rfl rfl rfl ?_
    refine d_skip 17 rfl (by kernel_rfl) (fun c e => by cases e) rfl rfl rfl rfl ?_
    refine d_take 18 rfl (by kernel_rfl) (by (first | exact y_pickT rfl rfl | exact y_pickF rfl rfl)) rfl ?_
    refine d_take 19 rfl (by kernel_rfl) (by exact y_move rfl) rfl ?_
    refine d_skip 20 rfl (by kernel_rfl) (fun c e => by cases e) rfl rfl rfl rfl ?_
    refine d_skip 21 rfl (by kernel_rfl) (fun c e => by cases e) rfl rfl rfl rfl ?_
    refine d_skip 22 rfl (by kernel_rfl) (fun c e => by cases e) rfl rfl rfl rfl ?_
    refine d_skip 23 rfl (by kernel_rfl) (fun c e => by cases e) rfl rfl rfl rfl ?_
    refine d_skip 24 rfl (by kernel_rfl) (fun c e => by cases e) rfl rfl rfl rfl ?_
    refine d_skip 25 rfl (by kernel_rfl) (fun c e => by cases e) rfl rfl rfl rfl ?_
    refine d_skip 26 rfl (by kernel_rfl) (fun c e => by cases e) rfl rfl rfl rfl ?_
    refine d_skip 27 rfl (by kernel_rfl) (fun c e => by cases e) rfl rfl rfl rfl ?_
    refine d_skip 28 rfl (by kernel_rfl) (fun c e => by cases e) rfl rfl rfl rfl ?_
    refine d_skip 29 rfl (by kernel_rfl) (fun c e => by cases e) rfl rfl rfl rfl ?_
    refine d_skip 30 rfl (by kernel_rfl) (fun c e => by cases e) rfl rfl rfl rfl ?_
    refine d_take 31 rfl (by kernel_rfl) (by (first | exact y_pickT rfl rfl | exact y_pickF rfl rfl)) rfl ?_
    refine d_take 32 rfl (by kernel_rfl) (by exact y_assign rfl) rfl ?_
    refine d_done (by kernel_rfl) ?_
    repeat (first | (refine s_seq ?_) | (refine s_region ?_) | (refine s_done ?_) | (refine s_block ?_) | (refine s_endb ?_) | (refine s_ends ?_) | (refine s_skip ?_) | (refine s_label ?_) | (refine s_exit rfl ?_) | (refine s_condT rfl ?_) | (refine s_condF rfl ?_) | (refine s_guard rfl rfl ?_) | (refine s_unguard rfl rfl rfl rfl ?_) | (refine s_unguardU rfl rfl rfl ?_) | (refine s_scope ?_) | (refine s_q (by (first | exact y_move rfl | exact y_assign rfl | exact y_add rfl rfl (by omega) | exact y_sub rfl rfl (by omega) | exact y_lss rfl rfl | exact y_leq rfl rfl | exact y_gtr rfl rfl | exact y_geq rfl rfl | exact y_eql rfl rfl | exact y_neq rfl rfl | exact y_notT rfl | exact y_notF rfl | exact y_notp rfl | exact y_notb rfl | exact y_pickT rfl rfl | exact y_pickF rfl rfl | exact y_nilCheck rfl | exact y_fieldAddrB rfl rfl rfl rfl rfl rfl | exact y_fieldAddr rfl rfl rfl rfl rfl rfl | exact y_lenS rfl rfl rfl | exact y_ixI rfl rfl rfl rfl rfl (by assumption) rfl (by omega) (by omega) | exact y_ld rfl rfl rfl (by rfl) | exact y_ldN rfl rfl rfl (by rfl) | exact y_ldK rfl rfl rfl rfl (by assumption) (by omega) | exact y_ldI rfl rfl rfl rfl (by assumption) (by omega) (by omega) | exact y_extract rfl rfl | exact y_max rfl rfl | exact y_min rfl rfl | exact y_build rfl rfl rfl rfl | exact y_mul rfl rfl (by omega) | exact y_eqlB rfl rfl rfl | exact y_neqB rfl rfl rfl | exact y_sliceHi rfl rfl rfl (by omega) rfl rfl)) rfl ?_))
    refine s_return ⟨?_, rfl⟩ (res_tmp Try.results16 rfl)
    congr 1
    exact (decide_eq_false (fun x => h0 (by omega))).symm
end Go.Proofs.Ytfbmeponhejbhaa
