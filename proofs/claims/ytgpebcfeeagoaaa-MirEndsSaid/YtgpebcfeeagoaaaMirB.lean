/- Layer 5 (mach): the contract of mach.Right. -/
import Derived.Test.YtgpebcfeeagoaaaMirA
import Derived.Test.YtgpebcfeeagoaaaEEb
set_option linter.unusedVariables false
set_option linter.unusedSimpArgs false
namespace Go.Proofs.Ytgpebcfeeagoaaa
open Go Go.E
set_option maxRecDepth 4000
set_option maxHeartbeats 1000000
abbrev mval (m : MV) (A : Option Addr) (c : Nat) (B : Option Addr) (d : Nat) : List Value := [.int .i64 m.regs, .slice A m.args.length c, .int .i64 m.ret, .slice B m.saved.length d]
theorem machRight_spec (w : World) (N : Nat → Prop) (A B : Option Addr) (c d : Nat) (m : MV) (ho : Owns w [] N) (ha : KI w N A m.args) (hs : KI w N B m.saved) (hla : m.args.length < 100000000000000) (hls : m.saved.length < 100000000000000) :
    Ret Try.prog 32 [.agg (mval m A c B d).toArray] w N fun v L => v = .bool (machOK m) ∧ L = [] := by
  refine ret_of_J cx Try.func32 rfl (Nat.le_of_ble_eq_true rfl) ho ?_
  refine s_seq ?_
  refine s_region ?_
  first | (refine s_box1 rfl rfl rfl (fun b => ?_)) | (refine s_boxA rfl rfl (fun b => ?_))
  refine s_q (y_assign rfl) rfl ?_
  refine s_done ?_
  refine s_seq ?_
  refine s_seq ?_
  by_cases h1 : m.regs < 1
  · refine s_region ?_
    refine s_q (by (first | exact y_fieldAddrB rfl rfl rfl rfl rfl rfl | exact y_fieldAddr rfl rfl rfl rfl rfl rfl)) rfl ?_
    refine s_q (by (first | exact y_ld rfl rfl rfl (by rfl) | exact y_ldN rfl rfl rfl (by rfl) | exact y_ldK rfl rfl rfl rfl (by assumption) (by omega) | exact y_ldI rfl rfl rfl rfl (by assumption) (by omega) (by omega))) rfl ?_
    refine s_q (by (first | exact y_as (y_lss rfl rfl) (congrArg Value.bool (decide_eq_true h1)) | exact y_lss rfl rfl)) rfl ?_
    refine s_q (y_move rfl) rfl ?_
    refine s_unguard2 (b := true) rfl rfl (by with_reducible rfl) rfl rfl ?_
    refine s_unguard2 (b := true) rfl rfl (by with_reducible rfl) rfl rfl ?_
    refine s_unguard2 (b := true) rfl rfl (by with_reducible rfl) rfl rfl ?_
    refine s_q (by (first | exact y_pickT rfl rfl | exact y_pickF rfl rfl)) rfl ?_
    refine s_q (y_move rfl) rfl ?_
    refine s_unguard2 (b := true) rfl rfl (by with_reducible rfl) rfl rfl ?_
    refine s_unguard2 (b := true) rfl rfl (by with_reducible rfl) rfl rfl ?_
    refine s_unguard2 (b := true) rfl rfl (by with_reducible rfl) rfl rfl ?_
    refine s_unguard2 (b := true) rfl rfl (by with_reducible rfl) rfl rfl ?_
    refine s_q (by (first | exact y_pickT rfl rfl | exact y_pickF rfl rfl)) rfl ?_
    refine s_q (y_move rfl) rfl ?_
    refine s_unguard2 (b := true) rfl rfl (by with_reducible rfl) rfl rfl ?_
    refine s_unguard2 (b := true) rfl rfl (by with_reducible rfl) rfl rfl ?_
    refine s_unguard2 (b := true) rfl rfl (by with_reducible rfl) rfl rfl ?_
    refine s_unguard2 (b := true) rfl rfl (by with_reducible rfl) rfl rfl ?_
    refine s_unguard2 (b := true) rfl rfl (by with_reducible rfl) rfl rfl ?_
    refine s_unguard2 (b := true) rfl rfl (by with_reducible rfl) rfl rfl ?_
    refine s_q (by (first | exact y_pickT rfl rfl | exact y_pickF rfl rfl)) rfl ?_
    refine s_q (y_move rfl) rfl ?_
    refine s_unguard2 (b := true) rfl rfl (by with_reducible rfl) rfl rfl ?_
    refine s_unguard2 (b := true) rfl rfl (by with_reducible rfl) rfl rfl ?_
    refine s_unguard2 (b := true) rfl rfl (by with_reducible rfl) rfl rfl ?_
    refine s_unguard2 (b := true) rfl rfl (by with_reducible rfl) rfl rfl ?_
    refine s_q (by (first | exact y_pickT rfl rfl | exact y_pickF rfl rfl)) rfl ?_
    refine s_done ?_
    refine s_condT2 rfl (by with_reducible rfl) ?_
    refine s_seq ?_
    refine s_region ?_
    refine s_q (y_assign rfl) rfl ?_
    refine s_done ?_
    exact s_return ⟨by rw [show machOK m = false by rw [machOK, decide_eq_false (by omega)]; rfl], rfl⟩ (res_tmp Try.results32 rfl)
  by_cases h2 : 64 < m.regs
  · refine s_region ?_
    refine s_q (by (first | exact y_fieldAddrB rfl rfl rfl rfl rfl rfl | exact y_fieldAddr rfl rfl rfl rfl rfl rfl)) rfl ?_
    refine s_q (by (first | exact y_ld rfl rfl rfl (by rfl) | exact y_ldN rfl rfl rfl (by rfl) | exact y_ldK rfl rfl rfl rfl (by assumption) (by omega) | exact y_ldI rfl rfl rfl rfl (by assumption) (by omega) (by omega))) rfl ?_
    refine s_q (by (first | exact y_as (y_lss rfl rfl) (congrArg Value.bool (decide_eq_false h1)) | exact y_lss rfl rfl)) rfl ?_
    refine s_q (y_move rfl) rfl ?_
    refine s_guard2 rfl rfl (by with_reducible rfl) ?_
    refine s_q (by (first | exact y_fieldAddrB rfl rfl rfl rfl rfl rfl | exact y_fieldAddr rfl rfl rfl rfl rfl rfl)) rfl ?_
    refine s_guard2 rfl rfl (by with_reducible rfl) ?_
    refine s_q (by (first | exact y_ld rfl rfl rfl (by rfl) | exact y_ldN rfl rfl rfl (by rfl) | exact y_ldK rfl rfl rfl rfl (by assumption) (by omega) | exact y_ldI rfl rfl rfl rfl (by assumption) (by omega) (by omega))) rfl ?_
    refine s_guard2 rfl rfl (by with_reducible rfl) ?_
    refine s_q (by (first | exact y_as (y_gtr rfl rfl) (congrArg Value.bool (decide_eq_true h2)) | exact y_gtr rfl rfl)) rfl ?_
    refine s_q (by (first | exact y_pickT rfl rfl | exact y_pickF rfl rfl)) rfl ?_
    refine s_q (y_move rfl) rfl ?_
    refine s_unguard2 (b := true) rfl rfl (by with_reducible rfl) rfl rfl ?_
    refine s_unguard2 (b := true) rfl rfl (by with_reducible rfl) rfl rfl ?_
    refine s_unguard2 (b := true) rfl rfl (by with_reducible rfl) rfl rfl ?_
    refine s_unguard2 (b := true) rfl rfl (by with_reducible rfl) rfl rfl ?_
    refine s_q (by (first | exact y_pickT rfl rfl | exact y_pickF rfl rfl)) rfl ?_
    refine s_q (y_move rfl) rfl ?_
    refine s_unguard2 (b := true) rfl rfl (by with_reducible rfl) rfl rfl ?_
    refine s_unguard2 (b := true) rfl rfl (by with_reducible rfl) rfl rfl ?_
    refine s_unguard2 (b := true) rfl rfl (by with_reducible rfl) rfl rfl ?_
    refine s_unguard2 (b := true) rfl rfl (by with_reducible rfl) rfl rfl ?_
    refine s_unguard2 (b := true) rfl rfl (by with_reducible rfl) rfl rfl ?_
    refine s_unguard2 (b := true) rfl rfl (by with_reducible rfl) rfl rfl ?_
    refine s_q (by (first | exact y_pickT rfl rfl | exact y_pickF rfl rfl)) rfl ?_
    refine s_q (y_move rfl) rfl ?_
    refine s_unguard2 (b := true) rfl rfl (by with_reducible rfl) rfl rfl ?_
    refine s_unguard2 (b := true) rfl rfl (by with_reducible rfl) rfl rfl ?_
    refine s_unguard2 (b := true) rfl rfl (by with_reducible rfl) rfl rfl ?_
    refine s_unguard2 (b := true) rfl rfl (by with_reducible rfl) rfl rfl ?_
    refine s_q (by (first | exact y_pickT rfl rfl | exact y_pickF rfl rfl)) rfl ?_
    refine s_done ?_
    refine s_condT2 rfl (by with_reducible rfl) ?_
    refine s_seq ?_
    refine s_region ?_
    refine s_q (y_assign rfl) rfl ?_
    refine s_done ?_
    exact s_return ⟨by rw [show machOK m = false by rw [machOK, decide_eq_false (by omega)]; rfl], rfl⟩ (res_tmp Try.results32 rfl)
  by_cases h3 : (8 : Int) < m.args.length
  · refine s_region ?_
    refine s_q (by (first | exact y_fieldAddrB rfl rfl rfl rfl rfl rfl | exact y_fieldAddr rfl rfl rfl rfl rfl rfl)) rfl ?_
    refine s_q (by (first | exact y_ld rfl rfl rfl (by rfl) | exact y_ldN rfl rfl rfl (by rfl) | exact y_ldK rfl rfl rfl rfl (by assumption) (by omega) | exact y_ldI rfl rfl rfl rfl (by assumption) (by omega) (by omega))) rfl ?_
    refine s_q (by (first | exact y_as (y_lss rfl rfl) (congrArg Value.bool (decide_eq_false h1)) | exact y_lss rfl rfl)) rfl ?_
    refine s_q (y_move rfl) rfl ?_
    refine s_guard2 rfl rfl (by with_reducible rfl) ?_
    refine s_q (by (first | exact y_fieldAddrB rfl rfl rfl rfl rfl rfl | exact y_fieldAddr rfl rfl rfl rfl rfl rfl)) rfl ?_
    refine s_guard2 rfl rfl (by with_reducible rfl) ?_
    refine s_q (by (first | exact y_ld rfl rfl rfl (by rfl) | exact y_ldN rfl rfl rfl (by rfl) | exact y_ldK rfl rfl rfl rfl (by assumption) (by omega) | exact y_ldI rfl rfl rfl rfl (by assumption) (by omega) (by omega))) rfl ?_
    refine s_guard2 rfl rfl (by with_reducible rfl) ?_
    refine s_q (by (first | exact y_as (y_gtr rfl rfl) (congrArg Value.bool (decide_eq_false h2)) | exact y_as (y_gtr rfl rfl) (congrArg Value.bool (decide_eq_true h3)) | exact y_gtr rfl rfl)) rfl ?_
    refine s_q (by (first | exact y_pickT rfl rfl | exact y_pickF rfl rfl)) rfl ?_
    refine s_q (y_move rfl) rfl ?_
    refine s_guard2 rfl rfl (by with_reducible rfl) ?_
    refine s_q (by (first | exact y_fieldAddrB rfl rfl rfl rfl rfl rfl | exact y_fieldAddr rfl rfl rfl rfl rfl rfl)) rfl ?_
    refine s_guard2 rfl rfl (by with_reducible rfl) ?_
    refine s_q (by (first | exact y_ld rfl rfl rfl (by rfl) | exact y_ldN rfl rfl rfl (by rfl) | exact y_ldK rfl rfl rfl rfl (by assumption) (by omega) | exact y_ldI rfl rfl rfl rfl (by assumption) (by omega) (by omega))) rfl ?_
    refine s_guard2 rfl rfl (by with_reducible rfl) ?_
    refine s_q (y_lenS rfl rfl rfl) rfl ?_
    refine s_guard2 rfl rfl (by with_reducible rfl) ?_
    refine s_q (by (first | exact y_as (y_gtr rfl rfl) (congrArg Value.bool (decide_eq_false h2)) | exact y_as (y_gtr rfl rfl) (congrArg Value.bool (decide_eq_true h3)) | exact y_gtr rfl rfl)) rfl ?_
    refine s_q (by (first | exact y_pickT rfl rfl | exact y_pickF rfl rfl)) rfl ?_
    refine s_q (y_move rfl) rfl ?_
    refine s_unguard2 (b := true) rfl rfl (by with_reducible rfl) rfl rfl ?_
    refine s_unguard2 (b := true) rfl rfl (by with_reducible rfl) rfl rfl ?_
    refine s_unguard2 (b := true) rfl rfl (by with_reducible rfl) rfl rfl ?_
    refine s_unguard2 (b := true) rfl rfl (by with_reducible rfl) rfl rfl ?_
    refine s_unguard2 (b := true) rfl rfl (by with_reducible rfl) rfl rfl ?_
    refine s_unguard2 (b := true) rfl rfl (by with_reducible rfl) rfl rfl ?_
    refine s_q (by (first | exact y_pickT rfl rfl | exact y_pickF rfl rfl)) rfl ?_
    refine s_q (y_move rfl) rfl ?_
    refine s_unguard2 (b := true) rfl rfl (by with_reducible rfl) rfl rfl ?_
    refine s_unguard2 (b := true) rfl rfl (by with_reducible rfl) rfl rfl ?_
    refine s_unguard2 (b := true) rfl rfl (by with_reducible rfl) rfl rfl ?_
    refine s_unguard2 (b := true) rfl rfl (by with_reducible rfl) rfl rfl ?_
    refine s_q (by (first | exact y_pickT rfl rfl | exact y_pickF rfl rfl)) rfl ?_
    refine s_done ?_
    refine s_condT2 rfl (by with_reducible rfl) ?_
    refine s_seq ?_
    refine s_region ?_
    refine s_q (y_assign rfl) rfl ?_
    refine s_done ?_
    exact s_return ⟨by rw [show machOK m = false by rw [machOK, decide_eq_false (by omega)]; rfl], rfl⟩ (res_tmp Try.results32 rfl)
  by_cases h4 : m.regs < (m.saved.length : Int)
  · refine s_region ?_
    refine s_q (by (first | exact y_fieldAddrB rfl rfl rfl rfl rfl rfl | exact y_fieldAddr rfl rfl rfl rfl rfl rfl)) rfl ?_
    refine s_q (by (first | exact y_ld rfl rfl rfl (by rfl) | exact y_ldN rfl rfl rfl (by rfl) | exact y_ldK rfl rfl rfl rfl (by assumption) (by omega) | exact y_ldI rfl rfl rfl rfl (by assumption) (by omega) (by omega))) rfl ?_
    refine s_q (by (first | exact y_as (y_lss rfl rfl) (congrArg Value.bool (decide_eq_false h1)) | exact y_lss rfl rfl)) rfl ?_
    refine s_q (y_move rfl) rfl ?_
    refine s_guard2 rfl rfl (by with_reducible rfl) ?_
    refine s_q (by (first | exact y_fieldAddrB rfl rfl rfl rfl rfl rfl | exact y_fieldAddr rfl rfl rfl rfl rfl rfl)) rfl ?_
    refine s_guard2 rfl rfl (by with_reducible rfl) ?_
    refine s_q (by (first | exact y_ld rfl rfl rfl (by rfl) | exact y_ldN rfl rfl rfl (by rfl) | exact y_ldK rfl rfl rfl rfl (by assumption) (by omega) | exact y_ldI rfl rfl rfl rfl (by assumption) (by omega) (by omega))) rfl ?_
    refine s_guard2 rfl rfl (by with_reducible rfl) ?_
    refine s_q (by (first | exact y_as (y_gtr rfl rfl) (congrArg Value.bool (decide_eq_false h2)) | exact y_as (y_gtr rfl rfl) (congrArg Value.bool (decide_eq_false h3)) | exact y_as (y_gtr rfl rfl) (congrArg Value.bool (decide_eq_true h4)) | exact y_gtr rfl rfl)) rfl ?_
    refine s_q (by (first | exact y_pickT rfl rfl | exact y_pickF rfl rfl)) rfl ?_
    refine s_q (y_move rfl) rfl ?_
    refine s_guard2 rfl rfl (by with_reducible rfl) ?_
    refine s_q (by (first | exact y_fieldAddrB rfl rfl rfl rfl rfl rfl | exact y_fieldAddr rfl rfl rfl rfl rfl rfl)) rfl ?_
    refine s_guard2 rfl rfl (by with_reducible rfl) ?_
    refine s_q (by (first | exact y_ld rfl rfl rfl (by rfl) | exact y_ldN rfl rfl rfl (by rfl) | exact y_ldK rfl rfl rfl rfl (by assumption) (by omega) | exact y_ldI rfl rfl rfl rfl (by assumption) (by omega) (by omega))) rfl ?_
    refine s_guard2 rfl rfl (by with_reducible rfl) ?_
    refine s_q (y_lenS rfl rfl rfl) rfl ?_
    refine s_guard2 rfl rfl (by with_reducible rfl) ?_
    refine s_q (by (first | exact y_as (y_gtr rfl rfl) (congrArg Value.bool (decide_eq_false h2)) | exact y_as (y_gtr rfl rfl) (congrArg Value.bool (decide_eq_false h3)) | exact y_as (y_gtr rfl rfl) (congrArg Value.bool (decide_eq_true h4)) | exact y_gtr rfl rfl)) rfl ?_
    refine s_q (by (first | exact y_pickT rfl rfl | exact y_pickF rfl rfl)) rfl ?_
    refine s_q (y_move rfl) rfl ?_
    refine s_guard2 rfl rfl (by with_reducible rfl) ?_
    refine s_q (by (first | exact y_fieldAddrB rfl rfl rfl rfl rfl rfl | exact y_fieldAddr rfl rfl rfl rfl rfl rfl)) rfl ?_
    refine s_guard2 rfl rfl (by with_reducible rfl) ?_
    refine s_q (by (first | exact y_ld rfl rfl rfl (by rfl) | exact y_ldN rfl rfl rfl (by rfl) | exact y_ldK rfl rfl rfl rfl (by assumption) (by omega) | exact y_ldI rfl rfl rfl rfl (by assumption) (by omega) (by omega))) rfl ?_
    refine s_guard2 rfl rfl (by with_reducible rfl) ?_
    refine s_q (y_lenS rfl rfl rfl) rfl ?_
    refine s_guard2 rfl rfl (by with_reducible rfl) ?_
    refine s_q (by (first | exact y_fieldAddrB rfl rfl rfl rfl rfl rfl | exact y_fieldAddr rfl rfl rfl rfl rfl rfl)) rfl ?_
    refine s_guard2 rfl rfl (by with_reducible rfl) ?_
    refine s_q (by (first | exact y_ld rfl rfl rfl (by rfl) | exact y_ldN rfl rfl rfl (by rfl) | exact y_ldK rfl rfl rfl rfl (by assumption) (by omega) | exact y_ldI rfl rfl rfl rfl (by assumption) (by omega) (by omega))) rfl ?_
    refine s_guard2 rfl rfl (by with_reducible rfl) ?_
    refine s_q (by (first | exact y_as (y_gtr rfl rfl) (congrArg Value.bool (decide_eq_false h2)) | exact y_as (y_gtr rfl rfl) (congrArg Value.bool (decide_eq_false h3)) | exact y_as (y_gtr rfl rfl) (congrArg Value.bool (decide_eq_true h4)) | exact y_gtr rfl rfl)) rfl ?_
    refine s_q (by (first | exact y_pickT rfl rfl | exact y_pickF rfl rfl)) rfl ?_
    refine s_q (y_move rfl) rfl ?_
    refine s_unguard2 (b := true) rfl rfl (by with_reducible rfl) rfl rfl ?_
    refine s_unguard2 (b := true) rfl rfl (by with_reducible rfl) rfl rfl ?_
    refine s_unguard2 (b := true) rfl rfl (by with_reducible rfl) rfl rfl ?_
    refine s_unguard2 (b := true) rfl rfl (by with_reducible rfl) rfl rfl ?_
    refine s_q (by (first | exact y_pickT rfl rfl | exact y_pickF rfl rfl)) rfl ?_
    refine s_done ?_
    refine s_condT2 rfl (by with_reducible rfl) ?_
    refine s_seq ?_
    refine s_region ?_
    refine s_q (y_assign rfl) rfl ?_
    refine s_done ?_
    exact s_return ⟨by rw [show machOK m = false by rw [machOK, decide_eq_false (by omega)]; rfl], rfl⟩ (res_tmp Try.results32 rfl)
  have hm : machOK m = (sortedB m.saved && setOK m.regs m.args && setOK m.regs (m.ret :: m.saved)) := by
    rw [machOK, decide_eq_true (by omega), Bool.true_and]
  refine s_region ?_
  refine s_q (by (first | exact y_fieldAddrB rfl rfl rfl rfl rfl rfl | exact y_fieldAddr rfl rfl rfl rfl rfl rfl)) rfl ?_
  refine s_q (by (first | exact y_ld rfl rfl rfl (by rfl) | exact y_ldN rfl rfl rfl (by rfl) | exact y_ldK rfl rfl rfl rfl (by assumption) (by omega) | exact y_ldI rfl rfl rfl rfl (by assumption) (by omega) (by omega))) rfl ?_
  refine s_q (by (first | exact y_as (y_lss rfl rfl) (congrArg Value.bool (decide_eq_false h1)) | exact y_lss rfl rfl)) rfl ?_
  refine s_q (y_move rfl) rfl ?_
  refine s_guard2 rfl rfl (by with_reducible rfl) ?_
  refine s_q (by (first | exact y_fieldAddrB rfl rfl rfl rfl rfl rfl | exact y_fieldAddr rfl rfl rfl rfl rfl rfl)) rfl ?_
  refine s_guard2 rfl rfl (by with_reducible rfl) ?_
  refine s_q (by (first | exact y_ld rfl rfl rfl (by rfl) | exact y_ldN rfl rfl rfl (by rfl) | exact y_ldK rfl rfl rfl rfl (by assumption) (by omega) | exact y_ldI rfl rfl rfl rfl (by assumption) (by omega) (by omega))) rfl ?_
  refine s_guard2 rfl rfl (by with_reducible rfl) ?_
  refine s_q (by (first | exact y_as (y_gtr rfl rfl) (congrArg Value.bool (decide_eq_false h2)) | exact y_as (y_gtr rfl rfl) (congrArg Value.bool (decide_eq_false h3)) | exact y_as (y_gtr rfl rfl) (congrArg Value.bool (decide_eq_false h4)) | exact y_gtr rfl rfl)) rfl ?_
  refine s_q (by (first | exact y_pickT rfl rfl | exact y_pickF rfl rfl)) rfl ?_
  refine s_q (y_move rfl) rfl ?_
  refine s_guard2 rfl rfl (by with_reducible rfl) ?_
  refine s_q (by (first | exact y_fieldAddrB rfl rfl rfl rfl rfl rfl | exact y_fieldAddr rfl rfl rfl rfl rfl rfl)) rfl ?_
  refine s_guard2 rfl rfl (by with_reducible rfl) ?_
  refine s_q (by (first | exact y_ld rfl rfl rfl (by rfl) | exact y_ldN rfl rfl rfl (by rfl) | exact y_ldK rfl rfl rfl rfl (by assumption) (by omega) | exact y_ldI rfl rfl rfl rfl (by assumption) (by omega) (by omega))) rfl ?_
  refine s_guard2 rfl rfl (by with_reducible rfl) ?_
  refine s_q (y_lenS rfl rfl rfl) rfl ?_
  refine s_guard2 rfl rfl (by with_reducible rfl) ?_
  refine s_q (by (first | exact y_as (y_gtr rfl rfl) (congrArg Value.bool (decide_eq_false h2)) | exact y_as (y_gtr rfl rfl) (congrArg Value.bool (decide_eq_false h3)) | exact y_as (y_gtr rfl rfl) (congrArg Value.bool (decide_eq_false h4)) | exact y_gtr rfl rfl)) rfl ?_
  refine s_q (by (first | exact y_pickT rfl rfl | exact y_pickF rfl rfl)) rfl ?_
  refine s_q (y_move rfl) rfl ?_
  refine s_guard2 rfl rfl (by with_reducible rfl) ?_
  refine s_q (by (first | exact y_fieldAddrB rfl rfl rfl rfl rfl rfl | exact y_fieldAddr rfl rfl rfl rfl rfl rfl)) rfl ?_
  refine s_guard2 rfl rfl (by with_reducible rfl) ?_
  refine s_q (by (first | exact y_ld rfl rfl rfl (by rfl) | exact y_ldN rfl rfl rfl (by rfl) | exact y_ldK rfl rfl rfl rfl (by assumption) (by omega) | exact y_ldI rfl rfl rfl rfl (by assumption) (by omega) (by omega))) rfl ?_
  refine s_guard2 rfl rfl (by with_reducible rfl) ?_
  refine s_q (y_lenS rfl rfl rfl) rfl ?_
  refine s_guard2 rfl rfl (by with_reducible rfl) ?_
  refine s_q (by (first | exact y_fieldAddrB rfl rfl rfl rfl rfl rfl | exact y_fieldAddr rfl rfl rfl rfl rfl rfl)) rfl ?_
  refine s_guard2 rfl rfl (by with_reducible rfl) ?_
  refine s_q (by (first | exact y_ld rfl rfl rfl (by rfl) | exact y_ldN rfl rfl rfl (by rfl) | exact y_ldK rfl rfl rfl rfl (by assumption) (by omega) | exact y_ldI rfl rfl rfl rfl (by assumption) (by omega) (by omega))) rfl ?_
  refine s_guard2 rfl rfl (by with_reducible rfl) ?_
  refine s_q (by (first | exact y_as (y_gtr rfl rfl) (congrArg Value.bool (decide_eq_false h2)) | exact y_as (y_gtr rfl rfl) (congrArg Value.bool (decide_eq_false h3)) | exact y_as (y_gtr rfl rfl) (congrArg Value.bool (decide_eq_false h4)) | exact y_gtr rfl rfl)) rfl ?_
  refine s_q (by (first | exact y_pickT rfl rfl | exact y_pickF rfl rfl)) rfl ?_
  refine s_q (y_move rfl) rfl ?_
  refine s_guard2 rfl rfl (by with_reducible rfl) ?_
  refine s_q (by (first | exact y_fieldAddrB rfl rfl rfl rfl rfl rfl | exact y_fieldAddr rfl rfl rfl rfl rfl rfl)) rfl ?_
  refine s_guard2 rfl rfl (by with_reducible rfl) ?_
  refine s_q (by (first | exact y_ld rfl rfl rfl (by rfl) | exact y_ldN rfl rfl rfl (by rfl) | exact y_ldK rfl rfl rfl rfl (by assumption) (by omega) | exact y_ldI rfl rfl rfl rfl (by assumption) (by omega) (by omega))) rfl ?_
  refine s_guard2 rfl rfl (by with_reducible rfl) ?_
  refine s_call (pre := []) (rem := _) rfl rfl tk (fun w N ho hl => IsSorted_spec w N B d m.saved ho (hs.of hl) (by omega)) rfl ?_
  rintro e L' ⟨rfl, rfl⟩
  try simp only [List.nil_append, List.cons_append, List.append_nil]
  cases hsb : sortedB m.saved with
  | false =>
    refine s_guard2 rfl rfl (by with_reducible rfl) ?_
    refine s_q (by (first | exact y_notT rfl | exact y_notF rfl | exact y_notp rfl | exact y_notb rfl)) rfl ?_
    refine s_q (by (first | exact y_pickT rfl rfl | exact y_pickF rfl rfl)) rfl ?_
    refine s_done ?_
    refine s_condT2 rfl (by with_reducible rfl) ?_
    refine s_seq ?_
    refine s_region ?_
    refine s_q (y_assign rfl) rfl ?_
    refine s_done ?_
    exact s_return ⟨by rw [hm, hsb]; rfl, rfl⟩ (res_tmp Try.results32 rfl)
  | true =>
  refine s_guard2 rfl rfl (by with_reducible rfl) ?_
  refine s_q (by (first | exact y_notT rfl | exact y_notF rfl | exact y_notp rfl | exact y_notb rfl)) rfl ?_
  refine s_q (by (first | exact y_pickT rfl rfl | exact y_pickF rfl rfl)) rfl ?_
  refine s_done ?_
  refine s_condF2 rfl (by with_reducible rfl) ?_
  refine s_skip ?_
  refine s_seq ?_
  refine s_region ?_
  refine s_q (by (first | exact y_fieldAddrB rfl rfl rfl rfl rfl rfl | exact y_fieldAddr rfl rfl rfl rfl rfl rfl)) rfl ?_
  refine s_q (by (first | exact y_ld rfl rfl rfl (by rfl) | exact y_ldN rfl rfl rfl (by rfl) | exact y_ldK rfl rfl rfl rfl (by assumption) (by omega) | exact y_ldI rfl rfl rfl rfl (by assumption) (by omega) (by omega))) rfl ?_
  refine s_q (by (first | exact y_fieldAddrB rfl rfl rfl rfl rfl rfl | exact y_fieldAddr rfl rfl rfl rfl rfl rfl)) rfl ?_
  refine s_q (by (first | exact y_ld rfl rfl rfl (by rfl) | exact y_ldN rfl rfl rfl (by rfl) | exact y_ldK rfl rfl rfl rfl (by assumption) (by omega) | exact y_ldI rfl rfl rfl rfl (by assumption) (by omega) (by omega))) rfl ?_
  refine s_call (pre := []) (rem := _) rfl rfl tk (fun w N ho hl => of_spec w N A c m.regs m.args ho (ha.of hl) (by omega) (by omega)) rfl ?_
  rintro e L' ⟨bs, hb, -, rfl, rfl⟩
  try simp only [List.nil_append, List.cons_append, List.append_nil]
  refine s_q (y_move rfl) rfl ?_
  refine s_q (y_extract rfl rfl) rfl ?_
  refine s_q (y_extract rfl rfl) rfl ?_
  refine s_alloc rfl rfl (fun b3 => ?_)
  refine s_storeW rfl rfl rfl (by rw [bools_length, hb]) (bools_one _) rfl ?_
  refine s_q (y_assign rfl) rfl ?_
  refine s_done ?_
  refine s_seq ?_
  refine s_joinV (σ := Unit) (fun s => [(6, .bool (setOK m.regs (m.ret :: m.saved)))]) [] (fun s => []) (fun s => True) [(4, _)] ⟨rfl, trivial⟩ tk (fun k' hr => ?_) ?_
  · skip
    refine d_start ?_
    refine d_take 0 rfl (by kernel_rfl) (by (first | exact y_fieldAddrB rfl rfl rfl rfl rfl rfl | exact y_fieldAddr rfl rfl rfl rfl rfl rfl)) rfl ?_
    refine d_take 1 rfl (by kernel_rfl) (by (first | exact y_ld rfl rfl rfl (by rfl) | exact y_ldN rfl rfl rfl (by rfl) | exact y_ldK rfl rfl rfl rfl (by assumption) (by omega) | exact y_ldI rfl rfl rfl rfl (by assumption) (by omega) (by omega))) rfl ?_
    refine d_take 2 rfl (by kernel_rfl) (by (first | exact y_fieldAddrB rfl rfl rfl rfl rfl rfl | exact y_fieldAddr rfl rfl rfl rfl rfl rfl)) rfl ?_
    refine d_take 3 rfl (by kernel_rfl) (by (first | exact y_ld rfl rfl rfl (by rfl) | exact y_ldN rfl rfl rfl (by rfl) | exact y_ldK rfl rfl rfl rfl (by assumption) (by omega) | exact y_ldI rfl rfl rfl rfl (by assumption) (by omega) (by omega))) rfl ?_
    refine d_take 5 rfl (by kernel_rfl) (by (first | exact y_fieldAddrB rfl rfl rfl rfl rfl rfl | exact y_fieldAddr rfl rfl rfl rfl rfl rfl)) rfl ?_
    refine d_take 6 rfl (by kernel_rfl) (by (first | exact y_ld rfl rfl rfl (by rfl) | exact y_ldN rfl rfl rfl (by rfl) | exact y_ldK rfl rfl rfl rfl (by assumption) (by omega) | exact y_ldI rfl rfl rfl rfl (by assumption) (by omega) (by omega))) rfl ?_
    refine d_effs [4, 12] (by kernel_rfl) rfl (all2 ?_ ?_)
    · refine ⟨_, rfl, [6, 5, 3, 2, 1, 0], [true, true, false, true, true, true], rfl, (by kernel_rfl), fun K hK => ?_⟩
      refine s_bslice rfl rfl rfl rfl rfl rfl rfl rfl (fun nb => ?_); change J _ _ _ (cb nb 3 (ints [m.ret]) :: _) _; refine J.imp (B := Sl 3 1 (some ⟨nb, 0, none⟩) 1 1 (ints [m.ret])) (fun h hh => Sl.ofCb rfl (by decide) hh) ?_
      refine s_done ?_
      refine hK _ _ (by refine rm_yd rfl (by (first | exact y_ld rfl rfl rfl (by rfl) | exact y_ldN rfl rfl rfl (by rfl) | exact y_ldK rfl rfl rfl rfl (by assumption) (by omega) | exact y_ldI rfl rfl rfl rfl (by assumption) (by omega) (by omega))) ?_; refine rm_yd rfl (by (first | exact y_fieldAddrB rfl rfl rfl rfl rfl rfl | exact y_fieldAddr rfl rfl rfl rfl rfl rfl)) ?_; refine rm_skip ?_; refine rm_yd rfl (by (first | exact y_fieldAddrB rfl rfl rfl rfl rfl rfl | exact y_fieldAddr rfl rfl rfl rfl rfl rfl)) ?_; refine rm_yd rfl (by (first | exact y_ld rfl rfl rfl (by rfl) | exact y_ldN rfl rfl rfl (by rfl) | exact y_ldK rfl rfl rfl rfl (by assumption) (by omega) | exact y_ldI rfl rfl rfl rfl (by assumption) (by omega) (by omega))) ?_; refine rm_yd rfl (by (first | exact y_fieldAddrB rfl rfl rfl rfl rfl rfl | exact y_fieldAddr rfl rfl rfl rfl rfl rfl)) ?_; exact rm_nil) ?_
      clear hK K
      refine d_effs [7, 12] (by kernel_rfl) rfl (all2 ?_ ?_)
      · refine ⟨_, rfl, [6, 5, 2, 1, 0], [false, true, true, true, true], rfl, (by kernel_rfl), fun K hK => ?_⟩
        refine s_appendI rfl rfl hs rfl rfl rfl rfl rfl (by omega) rfl (fun G g => ?_); rw [show ints [m.ret] ++ ints m.saved = ints (m.ret :: m.saved) from rfl, show 1 + m.saved.length = (m.ret :: m.saved).length by simp [Nat.add_comm]]
        refine s_done ?_
        refine hK _ _ (by refine rm_skip ?_; refine rm_yd rfl (by (first | exact y_fieldAddrB rfl rfl rfl rfl rfl rfl | exact y_fieldAddr rfl rfl rfl rfl rfl rfl)) ?_; refine rm_yd rfl (by (first | exact y_fieldAddrB rfl rfl rfl rfl rfl rfl | exact y_fieldAddr rfl rfl rfl rfl rfl rfl)) ?_; refine rm_yd rfl (by (first | exact y_ld rfl rfl rfl (by rfl) | exact y_ldN rfl rfl rfl (by rfl) | exact y_ldK rfl rfl rfl rfl (by assumption) (by omega) | exact y_ldI rfl rfl rfl rfl (by assumption) (by omega) (by omega))) ?_; refine rm_yd rfl (by (first | exact y_fieldAddrB rfl rfl rfl rfl rfl rfl | exact y_fieldAddr rfl rfl rfl rfl rfl rfl)) ?_; exact rm_nil) ?_
        clear hK K
        refine d_effs [8, 12] (by kernel_rfl) rfl (all2 ?_ ?_)
        · refine ⟨_, rfl, [5, 2, 1, 0], [true, true, false, true], rfl, (by kernel_rfl), fun K hK => ?_⟩
          refine s_call (pre := []) (rem := _) rfl rfl tk (fun w N ho hl => of_spec w N G g m.regs (m.ret :: m.saved) ho (KI.ofS hl (by repeat (first | exact List.mem_cons_self | refine List.mem_cons_of_mem _ ?_))) (by simp; omega) (by omega)) rfl ?_
          rintro e L' ⟨bs2, hb2, -, rfl, rfl⟩
          try simp only [List.nil_append, List.cons_append, List.append_nil]
          refine s_done ?_
          refine hK _ _ (by refine rm_yd rfl (by (first | exact y_fieldAddrB rfl rfl rfl rfl rfl rfl | exact y_fieldAddr rfl rfl rfl rfl rfl rfl)) ?_; refine rm_yd rfl (by (first | exact y_fieldAddrB rfl rfl rfl rfl rfl rfl | exact y_fieldAddr rfl rfl rfl rfl rfl rfl)) ?_; refine rm_skip ?_; refine rm_yd rfl (by (first | exact y_fieldAddrB rfl rfl rfl rfl rfl rfl | exact y_fieldAddr rfl rfl rfl rfl rfl rfl)) ?_; exact rm_nil) ?_
          clear hK K
          refine d_take 9 rfl (by kernel_rfl) (by exact y_move rfl) rfl ?_
          refine d_take 10 rfl (by kernel_rfl) (by exact y_extract rfl rfl) rfl ?_
          refine d_take 11 rfl (by kernel_rfl) (by exact y_extract rfl rfl) rfl ?_
          refine d_effM 12 [11, 10, 9, 5, 2, 0] [true, true, true, true, true, true] rfl (by kernel_rfl) rfl (by kernel_rfl) (fun K hK => ?_)
          refine s_alloc rfl rfl (fun b5 => ?_)
          refine s_done ?_
          refine hK _ _ (by refine rm_yd rfl (by exact y_extract rfl rfl) ?_; refine rm_yd rfl (by exact y_extract rfl rfl) ?_; refine rm_yd rfl (by exact y_move rfl) ?_; refine rm_yd rfl (by (first | exact y_fieldAddrB rfl rfl rfl rfl rfl rfl | exact y_fieldAddr rfl rfl rfl rfl rfl rfl)) ?_; refine rm_yd rfl (by (first | exact y_fieldAddrB rfl rfl rfl rfl rfl rfl | exact y_fieldAddr rfl rfl rfl rfl rfl rfl)) ?_; refine rm_yd rfl (by (first | exact y_fieldAddrB rfl rfl rfl rfl rfl rfl | exact y_fieldAddr rfl rfl rfl rfl rfl rfl)) ?_; exact rm_nil) ?_
          clear hK K
          refine d_effM 13 [11, 10, 9, 5, 2, 0] [true, false, false, false, false, false] rfl (by kernel_rfl) rfl (by kernel_rfl) (fun K hK => ?_)
          refine s_storeW rfl rfl rfl (by rw [bools_length, hb2]) (bools_one _) rfl ?_
          refine s_done ?_
          refine hK _ _ (by refine rm_yd rfl (by exact y_extract rfl rfl) ?_; refine rm_skip ?_; refine rm_skip ?_; refine rm_skip ?_; refine rm_skip ?_; refine rm_skip ?_; exact rm_nil) ?_
          clear hK K
          refine d_take 14 rfl (by kernel_rfl) (by exact y_assign rfl) rfl ?_
          refine d_done (by kernel_rfl) ?_
          have hr' := hr () trivial
          try dsimp only [List.cons_append, List.nil_append, List.append_nil] at hr'
          exact J.to hr' ⟨rfl, rfl, trivial⟩ tk
        · refine ⟨_, rfl, [5, 2, 1, 0], [true, true, true, true], rfl, (by kernel_rfl), fun K hK => ?_⟩
          refine s_alloc rfl rfl (fun b5 => ?_)
          refine s_done ?_
          refine hK _ _ (by refine rm_yd rfl (by (first | exact y_fieldAddrB rfl rfl rfl rfl rfl rfl | exact y_fieldAddr rfl rfl rfl rfl rfl rfl)) ?_; refine rm_yd rfl (by (first | exact y_fieldAddrB rfl rfl rfl rfl rfl rfl | exact y_fieldAddr rfl rfl rfl rfl rfl rfl)) ?_; refine rm_yd rfl (by (first | exact y_ld rfl rfl rfl (by rfl) | exact y_ldN rfl rfl rfl (by rfl) | exact y_ldK rfl rfl rfl rfl (by assumption) (by omega) | exact y_ldI rfl rfl rfl rfl (by assumption) (by omega) (by omega))) ?_; refine rm_yd rfl (by (first | exact y_fieldAddrB rfl rfl rfl rfl rfl rfl | exact y_fieldAddr rfl rfl rfl rfl rfl rfl)) ?_; exact rm_nil) ?_
          clear hK K
          refine d_effM 8 [5, 2, 1, 0] [true, true, false, true] rfl (by kernel_rfl) rfl (by kernel_rfl) (fun K hK => ?_)
          refine s_call (pre := []) (rem := _) rfl rfl tk (fun w N ho hl => of_spec w N G g m.regs (m.ret :: m.saved) ho (KI.ofS hl (by repeat (first | exact List.mem_cons_self | refine List.mem_cons_of_mem _ ?_))) (by simp; omega) (by omega)) rfl ?_
          rintro e L' ⟨bs2, hb2, -, rfl, rfl⟩
          try simp only [List.nil_append, List.cons_append, List.append_nil]
          refine s_done ?_
          refine hK _ _ (by refine rm_yd rfl (by (first | exact y_fieldAddrB rfl rfl rfl rfl rfl rfl | exact y_fieldAddr rfl rfl rfl rfl rfl rfl)) ?_; refine rm_yd rfl (by (first | exact y_fieldAddrB rfl rfl rfl rfl rfl rfl | exact y_fieldAddr rfl rfl rfl rfl rfl rfl)) ?_; refine rm_skip ?_; refine rm_yd rfl (by (first | exact y_fieldAddrB rfl rfl rfl rfl rfl rfl | exact y_fieldAddr rfl rfl rfl rfl rfl rfl)) ?_; exact rm_nil) ?_
          clear hK K
          refine d_take 9 rfl (by kernel_rfl) (by exact y_move rfl) rfl ?_
          refine d_take 10 rfl (by kernel_rfl) (by exact y_extract rfl rfl) rfl ?_
          refine d_take 11 rfl (by kernel_rfl) (by exact y_extract rfl rfl) rfl ?_
          refine d_effM 13 [11, 10, 9, 5, 2, 0] [true, false, false, false, false, false] rfl (by kernel_rfl) rfl (by kernel_rfl) (fun K hK => ?_)
          refine s_storeW rfl rfl rfl (by rw [bools_length, hb2]) (bools_one _) rfl ?_
          refine s_done ?_
          refine hK _ _ (by refine rm_yd rfl (by exact y_extract rfl rfl) ?_; refine rm_skip ?_; refine rm_skip ?_; refine rm_skip ?_; refine rm_skip ?_; refine rm_skip ?_; exact rm_nil) ?_
          clear hK K
          refine d_take 14 rfl (by kernel_rfl) (by exact y_assign rfl) rfl ?_
          refine d_done (by kernel_rfl) ?_
          have hr' := hr () trivial
          try dsimp only [List.cons_append, List.nil_append, List.append_nil] at hr'
          exact J.to hr' ⟨rfl, rfl, trivial⟩ tk
      · refine ⟨_, rfl, [6, 5, 2, 1, 0], [true, true, true, true, true], rfl, (by kernel_rfl), fun K hK => ?_⟩
        refine s_alloc rfl rfl (fun b5 => ?_)
        refine s_done ?_
        refine hK _ _ (by refine rm_yd rfl (by (first | exact y_ld rfl rfl rfl (by rfl) | exact y_ldN rfl rfl rfl (by rfl) | exact y_ldK rfl rfl rfl rfl (by assumption) (by omega) | exact y_ldI rfl rfl rfl rfl (by assumption) (by omega) (by omega))) ?_; refine rm_yd rfl (by (first | exact y_fieldAddrB rfl rfl rfl rfl rfl rfl | exact y_fieldAddr rfl rfl rfl rfl rfl rfl)) ?_; refine rm_yd rfl (by (first | exact y_fieldAddrB rfl rfl rfl rfl rfl rfl | exact y_fieldAddr rfl rfl rfl rfl rfl rfl)) ?_; refine rm_yd rfl (by (first | exact y_ld rfl rfl rfl (by rfl) | exact y_ldN rfl rfl rfl (by rfl) | exact y_ldK rfl rfl rfl rfl (by assumption) (by omega) | exact y_ldI rfl rfl rfl rfl (by assumption) (by omega) (by omega))) ?_; refine rm_yd rfl (by (first | exact y_fieldAddrB rfl rfl rfl rfl rfl rfl | exact y_fieldAddr rfl rfl rfl rfl rfl rfl)) ?_; exact rm_nil) ?_
        clear hK K
        refine d_effM 7 [6, 5, 2, 1, 0] [false, true, true, true, true] rfl (by kernel_rfl) rfl (by kernel_rfl) (fun K hK => ?_)
        refine s_appendI rfl rfl hs rfl rfl rfl rfl rfl (by omega) rfl (fun G g => ?_); rw [show ints [m.ret] ++ ints m.saved = ints (m.ret :: m.saved) from rfl, show 1 + m.saved.length = (m.ret :: m.saved).length by simp [Nat.add_comm]]
        refine s_done ?_
        refine hK _ _ (by refine rm_skip ?_; refine rm_yd rfl (by (first | exact y_fieldAddrB rfl rfl rfl rfl rfl rfl | exact y_fieldAddr rfl rfl rfl rfl rfl rfl)) ?_; refine rm_yd rfl (by (first | exact y_fieldAddrB rfl rfl rfl rfl rfl rfl | exact y_fieldAddr rfl rfl rfl rfl rfl rfl)) ?_; refine rm_yd rfl (by (first | exact y_ld rfl rfl rfl (by rfl) | exact y_ldN rfl rfl rfl (by rfl) | exact y_ldK rfl rfl rfl rfl (by assumption) (by omega) | exact y_ldI rfl rfl rfl rfl (by assumption) (by omega) (by omega))) ?_; refine rm_yd rfl (by (first | exact y_fieldAddrB rfl rfl rfl rfl rfl rfl | exact y_fieldAddr rfl rfl rfl rfl rfl rfl)) ?_; exact rm_nil) ?_
        clear hK K
        refine d_effM 8 [5, 2, 1, 0] [true, true, false, true] rfl (by kernel_rfl) rfl (by kernel_rfl) (fun K hK => ?_)
        refine s_call (pre := []) (rem := _) rfl rfl tk (fun w N ho hl => of_spec w N G g m.regs (m.ret :: m.saved) ho (KI.ofS hl (by repeat (first | exact List.mem_cons_self | refine List.mem_cons_of_mem _ ?_))) (by simp; omega) (by omega)) rfl ?_
        rintro e L' ⟨bs2, hb2, -, rfl, rfl⟩
        try simp only [List.nil_append, List.cons_append, List.append_nil]
        refine s_done ?_
        refine hK _ _ (by refine rm_yd rfl (by (first | exact y_fieldAddrB rfl rfl rfl rfl rfl rfl | exact y_fieldAddr rfl rfl rfl rfl rfl rfl)) ?_; refine rm_yd rfl (by (first | exact y_fieldAddrB rfl rfl rfl rfl rfl rfl | exact y_fieldAddr rfl rfl rfl rfl rfl rfl)) ?_; refine rm_skip ?_; refine rm_yd rfl (by (first | exact y_fieldAddrB rfl rfl rfl rfl rfl rfl | exact y_fieldAddr rfl rfl rfl rfl rfl rfl)) ?_; exact rm_nil) ?_
        clear hK K
        refine d_take 9 rfl (by kernel_rfl) (by exact y_move rfl) rfl ?_
        refine d_take 10 rfl (by kernel_rfl) (by exact y_extract rfl rfl) rfl ?_
        refine d_take 11 rfl (by kernel_rfl) (by exact y_extract rfl rfl) rfl ?_
        refine d_effM 13 [11, 10, 9, 5, 2, 0] [true, false, false, false, false, false] rfl (by kernel_rfl) rfl (by kernel_rfl) (fun K hK => ?_)
        refine s_storeW rfl rfl rfl (by rw [bools_length, hb2]) (bools_one _) rfl ?_
        refine s_done ?_
        refine hK _ _ (by refine rm_yd rfl (by exact y_extract rfl rfl) ?_; refine rm_skip ?_; refine rm_skip ?_; refine rm_skip ?_; refine rm_skip ?_; refine rm_skip ?_; exact rm_nil) ?_
        clear hK K
        refine d_take 14 rfl (by kernel_rfl) (by exact y_assign rfl) rfl ?_
        refine d_done (by kernel_rfl) ?_
        have hr' := hr () trivial
        try dsimp only [List.cons_append, List.nil_append, List.append_nil] at hr'
        exact J.to hr' ⟨rfl, rfl, trivial⟩ tk
    · refine ⟨_, rfl, [6, 5, 3, 2, 1, 0], [true, true, true, true, true, true], rfl, (by kernel_rfl), fun K hK => ?_⟩
      refine s_alloc rfl rfl (fun b5 => ?_)
      refine s_done ?_
      refine hK _ _ (by refine rm_yd rfl (by (first | exact y_ld rfl rfl rfl (by rfl) | exact y_ldN rfl rfl rfl (by rfl) | exact y_ldK rfl rfl rfl rfl (by assumption) (by omega) | exact y_ldI rfl rfl rfl rfl (by assumption) (by omega) (by omega))) ?_; refine rm_yd rfl (by (first | exact y_fieldAddrB rfl rfl rfl rfl rfl rfl | exact y_fieldAddr rfl rfl rfl rfl rfl rfl)) ?_; refine rm_yd rfl (by (first | exact y_ld rfl rfl rfl (by rfl) | exact y_ldN rfl rfl rfl (by rfl) | exact y_ldK rfl rfl rfl rfl (by assumption) (by omega) | exact y_ldI rfl rfl rfl rfl (by assumption) (by omega) (by omega))) ?_; refine rm_yd rfl (by (first | exact y_fieldAddrB rfl rfl rfl rfl rfl rfl | exact y_fieldAddr rfl rfl rfl rfl rfl rfl)) ?_; refine rm_yd rfl (by (first | exact y_ld rfl rfl rfl (by rfl) | exact y_ldN rfl rfl rfl (by rfl) | exact y_ldK rfl rfl rfl rfl (by assumption) (by omega) | exact y_ldI rfl rfl rfl rfl (by assumption) (by omega) (by omega))) ?_; refine rm_yd rfl (by (first | exact y_fieldAddrB rfl rfl rfl rfl rfl rfl | exact y_fieldAddr rfl rfl rfl rfl rfl rfl)) ?_; exact rm_nil) ?_
      clear hK K
      refine d_effM 4 [6, 5, 3, 2, 1, 0] [true, true, false, true, true, true] rfl (by kernel_rfl) rfl (by kernel_rfl) (fun K hK => ?_)
      refine s_bslice rfl rfl rfl rfl rfl rfl rfl rfl (fun nb => ?_); change J _ _ _ (cb nb 3 (ints [m.ret]) :: _) _; refine J.imp (B := Sl 3 1 (some ⟨nb, 0, none⟩) 1 1 (ints [m.ret])) (fun h hh => Sl.ofCb rfl (by decide) hh) ?_
      refine s_done ?_
      refine hK _ _ (by refine rm_yd rfl (by (first | exact y_ld rfl rfl rfl (by rfl) | exact y_ldN rfl rfl rfl (by rfl) | exact y_ldK rfl rfl rfl rfl (by assumption) (by omega) | exact y_ldI rfl rfl rfl rfl (by assumption) (by omega) (by omega))) ?_; refine rm_yd rfl (by (first | exact y_fieldAddrB rfl rfl rfl rfl rfl rfl | exact y_fieldAddr rfl rfl rfl rfl rfl rfl)) ?_; refine rm_skip ?_; refine rm_yd rfl (by (first | exact y_fieldAddrB rfl rfl rfl rfl rfl rfl | exact y_fieldAddr rfl rfl rfl rfl rfl rfl)) ?_; refine rm_yd rfl (by (first | exact y_ld rfl rfl rfl (by rfl) | exact y_ldN rfl rfl rfl (by rfl) | exact y_ldK rfl rfl rfl rfl (by assumption) (by omega) | exact y_ldI rfl rfl rfl rfl (by assumption) (by omega) (by omega))) ?_; refine rm_yd rfl (by (first | exact y_fieldAddrB rfl rfl rfl rfl rfl rfl | exact y_fieldAddr rfl rfl rfl rfl rfl rfl)) ?_; exact rm_nil) ?_
      clear hK K
      refine d_effM 7 [6, 5, 2, 1, 0] [false, true, true, true, true] rfl (by kernel_rfl) rfl (by kernel_rfl) (fun K hK => ?_)
      refine s_appendI rfl rfl hs rfl rfl rfl rfl rfl (by omega) rfl (fun G g => ?_); rw [show ints [m.ret] ++ ints m.saved = ints (m.ret :: m.saved) from rfl, show 1 + m.saved.length = (m.ret :: m.saved).length by simp [Nat.add_comm]]
      refine s_done ?_
      refine hK _ _ (by refine rm_skip ?_; refine rm_yd rfl (by (first | exact y_fieldAddrB rfl rfl rfl rfl rfl rfl | exact y_fieldAddr rfl rfl rfl rfl rfl rfl)) ?_; refine rm_yd rfl (by (first | exact y_fieldAddrB rfl rfl rfl rfl rfl rfl | exact y_fieldAddr rfl rfl rfl rfl rfl rfl)) ?_; refine rm_yd rfl (by (first | exact y_ld rfl rfl rfl (by rfl) | exact y_ldN rfl rfl rfl (by rfl) | exact y_ldK rfl rfl rfl rfl (by assumption) (by omega) | exact y_ldI rfl rfl rfl rfl (by assumption) (by omega) (by omega))) ?_; refine rm_yd rfl (by (first | exact y_fieldAddrB rfl rfl rfl rfl rfl rfl | exact y_fieldAddr rfl rfl rfl rfl rfl rfl)) ?_; exact rm_nil) ?_
      clear hK K
      refine d_effM 8 [5, 2, 1, 0] [true, true, false, true] rfl (by kernel_rfl) rfl (by kernel_rfl) (fun K hK => ?_)
      refine s_call (pre := []) (rem := _) rfl rfl tk (fun w N ho hl => of_spec w N G g m.regs (m.ret :: m.saved) ho (KI.ofS hl (by repeat (first | exact List.mem_cons_self | refine List.mem_cons_of_mem _ ?_))) (by simp; omega) (by omega)) rfl ?_
      rintro e L' ⟨bs2, hb2, -, rfl, rfl⟩
      try simp only [List.nil_append, List.cons_append, List.append_nil]
      refine s_done ?_
      refine hK _ _ (by refine rm_yd rfl (by (first | exact y_fieldAddrB rfl rfl rfl rfl rfl rfl | exact y_fieldAddr rfl rfl rfl rfl rfl rfl)) ?_; refine rm_yd rfl (by (first | exact y_fieldAddrB rfl rfl rfl rfl rfl rfl | exact y_fieldAddr rfl rfl rfl rfl rfl rfl)) ?_; refine rm_skip ?_; refine rm_yd rfl (by (first | exact y_fieldAddrB rfl rfl rfl rfl rfl rfl | exact y_fieldAddr rfl rfl rfl rfl rfl rfl)) ?_; exact rm_nil) ?_
      clear hK K
      refine d_take 9 rfl (by kernel_rfl) (by exact y_move rfl) rfl ?_
      refine d_take 10 rfl (by kernel_rfl) (by exact y_extract rfl rfl) rfl ?_
      refine d_take 11 rfl (by kernel_rfl) (by exact y_extract rfl rfl) rfl ?_
      refine d_effM 13 [11, 10, 9, 5, 2, 0] [true, false, false, false, false, false] rfl (by kernel_rfl) rfl (by kernel_rfl) (fun K hK => ?_)
      refine s_storeW rfl rfl rfl (by rw [bools_length, hb2]) (bools_one _) rfl ?_
      refine s_done ?_
      refine hK _ _ (by refine rm_yd rfl (by exact y_extract rfl rfl) ?_; refine rm_skip ?_; refine rm_skip ?_; refine rm_skip ?_; refine rm_skip ?_; refine rm_skip ?_; exact rm_nil) ?_
      clear hK K
      refine d_take 14 rfl (by kernel_rfl) (by exact y_assign rfl) rfl ?_
      refine d_done (by kernel_rfl) ?_
      have hr' := hr () trivial
      try dsimp only [List.cons_append, List.nil_append, List.append_nil] at hr'
      exact J.to hr' ⟨rfl, rfl, trivial⟩ tk
  rintro - -
  dsimp only [List.cons_append, List.nil_append]
  refine s_seq ?_
  cases hA : setOK m.regs m.args with
  | false =>
    refine s_region ?_
    refine s_q (y_move rfl) rfl ?_
    refine s_q (y_move rfl) rfl ?_
    refine s_unguard2 (b := false) rfl rfl (by with_reducible rfl) rfl rfl ?_
    refine s_q (by (first | exact y_pickT rfl rfl | exact y_pickF rfl rfl)) rfl ?_
    refine s_q (y_assign rfl) rfl ?_
    refine s_done ?_
    exact s_return ⟨by rw [hm, hsb, hA]; rfl, rfl⟩ (res_tmp Try.results32 rfl)
  | true =>
    refine s_region ?_
    refine s_q (y_move rfl) rfl ?_
    refine s_q (y_move rfl) rfl ?_
    refine s_guard2 rfl rfl (by with_reducible rfl) ?_
    refine s_q (y_move rfl) rfl ?_
    refine s_q (by (first | exact y_pickT rfl rfl | exact y_pickF rfl rfl)) rfl ?_
    refine s_q (y_assign rfl) rfl ?_
    refine s_done ?_
    exact s_return ⟨by rw [hm, hsb, hA]; rfl, rfl⟩ (res_tmp Try.results32 rfl)
end Go.Proofs.Ytgpebcfeeagoaaa
