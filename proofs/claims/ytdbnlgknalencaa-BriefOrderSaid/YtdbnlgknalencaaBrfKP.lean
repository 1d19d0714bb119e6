/- The kit of the laws: which one of many. -/
import Derived.Test.YtdbnlgknalencaaBrfCx
import Derived.Test.YtdbnlgknalencaaEEc
import Derived.Test.YtdbnlgknalencaaEEb
set_option linter.unusedVariables false
set_option linter.unusedSimpArgs false
namespace Go.Proofs.Ytdbnlgknalencaa
open Go Go.E
set_option maxRecDepth 4000
set_option maxHeartbeats 1000000
theorem tmod_b (x n : Int) (h : 0 < n) : -n < x.tmod n ∧ x.tmod n < n := by
  have h1 := Int.tmod_lt_of_pos x h
  have h2 := Int.lt_tmod_of_pos x h
  omega
theorem Pick_spec (w : World) (N : Nat → Prop) (x : Int) (n : Nat) (ho : Owns w [] N) (hn : 1 ≤ n ∧ n < 1000000000) :
    Ret Try.prog 8 [.int .i64 x, .int .i64 n] w N fun v L => ∃ k : Nat, k < n ∧ v = .int .i64 k ∧ L = [] := by
  refine ret_of_J cx Try.func8 rfl (Nat.le_of_ble_eq_true rfl) ho ?_
  refine s_seq ?_
  refine s_region ?_
  refine s_q (y_assign rfl) rfl ?_
  refine s_done ?_
  refine s_seq ?_
  refine s_seq ?_
  refine s_region ?_
  refine s_q (y_move rfl) rfl ?_
  refine s_q (y_lss rfl rfl) rfl ?_
  refine s_done ?_
  refine s_cond rfl (fun h => ?_) (fun h => ?_)
  · omega
  have hb := tmod_b x n (by omega)
  refine s_skip ?_
  refine s_seq ?_
  refine s_region ?_
  refine s_q (y_move rfl) rfl ?_
  refine s_q (y_move rfl) rfl ?_
  refine s_q (y_remw rfl rfl (by omega)) rfl ?_
  refine s_q (y_assign rfl) rfl ?_
  refine s_done ?_
  refine s_seq ?_
  refine s_seq ?_
  refine s_region ?_
  refine s_q (y_move rfl) rfl ?_
  refine s_q (y_lss rfl rfl) rfl ?_
  refine s_done ?_
  refine s_cond rfl (fun h2 => ?_) (fun h2 => ?_)
  · refine s_region ?_
    refine s_q (y_move rfl) rfl ?_
    refine s_q (y_move rfl) rfl ?_
    refine s_q (y_add rfl rfl (by omega)) rfl ?_
    refine s_q (y_assign rfl) rfl ?_
    refine s_done ?_
    refine s_seq ?_
    refine s_region ?_
    refine s_q (y_move rfl) rfl ?_
    refine s_q (y_assign rfl) rfl ?_
    refine s_done ?_
    exact s_return ⟨(x.tmod n + n).toNat, by omega, by rw [Int.toNat_of_nonneg (by omega)], rfl⟩ (res_tmp Try.results8 rfl)
  · refine s_skip ?_
    refine s_seq ?_
    refine s_region ?_
    refine s_q (y_move rfl) rfl ?_
    refine s_q (y_assign rfl) rfl ?_
    refine s_done ?_
    exact s_return ⟨(x.tmod n).toNat, by omega, by rw [Int.toNat_of_nonneg (by omega)], rfl⟩ (res_tmp Try.results8 rfl)
end Go.Proofs.Ytdbnlgknalencaa
