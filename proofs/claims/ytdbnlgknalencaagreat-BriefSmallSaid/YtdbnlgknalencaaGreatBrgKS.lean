/- The kit of the laws: lists of numbers compared. -/
import Derived.Test.YtdbnlgknalencaaGreatBrgCx
import Derived.Test.YtdbnlgknalencaaGreatEEc
import Derived.Test.YtdbnlgknalencaaGreatEEb
set_option linter.unusedVariables false
set_option linter.unusedSimpArgs false
namespace Go.Proofs.YtdbnlgknalencaaGreat
open Go Go.E
set_option maxRecDepth 4000
set_option maxHeartbeats 1000000
theorem SameInts_spec (w : World) (N : Nat → Prop) (A B : Option Addr) (c kb n m : Nat) (xs ys : List Int) (hn : n = xs.length) (hm : m = ys.length) (ho : Owns w [] N) (hk : KI w N A xs) (hk2 : KI w N B ys) (hlen : xs.length < 1000000000) :
    Ret Tryz.prog 13 [.slice A n c, .slice B m kb] w N fun v L => v = .bool (decide (xs = ys)) ∧ L = [] := by
  subst hn hm
  refine ret_of_J cx Tryz.func13 rfl (Nat.le_of_ble_eq_true rfl) ho ?_
  refine s_seq ?_
  refine s_region ?_
  refine s_q (y_assign rfl) rfl ?_
  refine s_done ?_
  refine s_seq ?_
  refine s_seq ?_
  refine s_region ?_
  refine s_q (y_move rfl) rfl ?_
  refine s_q (y_lenS rfl rfl rfl) rfl ?_
  refine s_q (y_move rfl) rfl ?_
  refine s_q (y_lenS rfl rfl rfl) rfl ?_
  refine s_q (by (first | exact y_neq rfl rfl | exact y_neqB rfl rfl rfl)) rfl ?_
  refine s_done ?_
  refine s_cond rfl (fun h => ?_) (fun h => ?_)
  · refine s_seq ?_
    refine s_region ?_
    refine s_q (y_assign rfl) rfl ?_
    refine s_done ?_
    exact s_return ⟨by rw [decide_eq_false (fun e => h (by rw [e]))], rfl⟩ (res_tmp Tryz.results13 rfl)
  · have hl : xs.length = ys.length := by omega
    refine s_skip ?_
    refine s_seq ?_
    refine s_seq ?_
    refine s_region ?_
    refine s_q (y_assign rfl) rfl ?_
    refine s_done ?_
    refine s_block ?_
    refine s_loopV (σ := Nat) (fun s => [(5, .int .i64 s)]) (fun s => []) (fun s => (s ≤ xs.length) ∧ (xs.take s = ys.take s)) (fun s => xs.length - s) (0) [(0, _), (1, _)] ⟨rfl, rfl, trivial⟩ ⟨rfl, trivial⟩ tk ⟨Nat.zero_le _, rfl⟩ ?_
    rintro i ⟨hi, ht⟩
    try dsimp only [List.cons_append, List.nil_append, List.append_nil] at hi ht ⊢
    refine s_seq ?_
    refine s_seq ?_
    refine s_region ?_
    refine s_q (y_move rfl) rfl ?_
    refine s_q (y_move rfl) rfl ?_
    refine s_q (y_lenS rfl rfl rfl) rfl ?_
    refine s_q (y_lss rfl rfl) rfl ?_
    refine s_done ?_
    refine s_cond rfl (fun h1 => ?_) (fun h1 => ?_)
    · refine s_skip ?_
      refine s_seq ?_
      refine s_block ?_
      refine s_seq ?_
      refine d_start ?_
      refine d_take 0 rfl (by kernel_rfl) (by exact y_move rfl) rfl ?_
      refine d_take 1 rfl (by kernel_rfl) (by exact y_move rfl) rfl ?_
      refine d_take 2 rfl (by kernel_rfl) (by (first | exact y_ixI rfl rfl rfl rfl rfl hk rfl (by omega) (by omega) | exact y_ixI rfl rfl rfl rfl rfl hk2 rfl (by omega) (by omega) | exact y_ixI rfl rfl rfl rfl rfl (by assumption) rfl (by omega) (by omega))) rfl ?_
      refine d_take 3 rfl (by kernel_rfl) (by (first | exact y_ldK rfl rfl rfl rfl hk (by omega) | exact y_ldK rfl rfl rfl rfl hk2 (by omega) | exact y_ld rfl rfl rfl (by rfl) | exact y_ldN rfl rfl rfl (by rfl) | exact y_ldK rfl rfl rfl rfl (by assumption) (by omega) | exact y_ldI rfl rfl rfl rfl (by assumption) (by omega) (by omega))) rfl ?_
      refine d_take 4 rfl (by kernel_rfl) (by exact y_move rfl) rfl ?_
      refine d_take 5 rfl (by kernel_rfl) (by exact y_move rfl) rfl ?_
      refine d_take 6 rfl (by kernel_rfl) (by (first | exact y_ixI rfl rfl rfl rfl rfl hk rfl (by omega) (by omega) | exact y_ixI rfl rfl rfl rfl rfl hk2 rfl (by omega) (by omega) | exact y_ixI rfl rfl rfl rfl rfl (by assumption) rfl (by omega) (by omega))) rfl ?_
      refine d_take 7 rfl (by kernel_rfl) (by (first | exact y_ldK rfl rfl rfl rfl hk (by omega) | exact y_ldK rfl rfl rfl rfl hk2 (by omega) | exact y_ld rfl rfl rfl (by rfl) | exact y_ldN rfl rfl rfl (by rfl) | exact y_ldK rfl rfl rfl rfl (by assumption) (by omega) | exact y_ldI rfl rfl rfl rfl (by assumption) (by omega) (by omega))) rfl ?_
      refine d_take 8 rfl (by kernel_rfl) (by (first | exact y_neq rfl rfl | exact y_neqB rfl rfl rfl)) rfl ?_
      refine d_done (by kernel_rfl) ?_
      have hix : i < xs.length := by omega
      have hiy : i < ys.length := by omega
      have ex : xs.getD i 0 = xs[i] := by rw [List.getD_eq_getElem?_getD, List.getElem?_eq_getElem hix]; rfl
      have ey : ys.getD i 0 = ys[i] := by rw [List.getD_eq_getElem?_getD, List.getElem?_eq_getElem hiy]; rfl
      refine s_cond rfl (fun h2 => ?_) (fun h2 => ?_)
      · refine s_seq ?_
        refine s_region ?_
        refine s_q (y_assign rfl) rfl ?_
        refine s_done ?_
        exact s_return ⟨by rw [decide_eq_false (fun e => h2 (by rw [e]))], rfl⟩ (res_tmp Tryz.results13 rfl)
      · refine s_skip ?_
        refine s_endb ?_
        refine s_region ?_
        refine s_q (y_move rfl) rfl ?_
        refine s_q (y_add rfl rfl (by omega)) rfl ?_
        refine s_q (y_assign rfl) rfl ?_
        refine s_done ?_
        refine s_inv (i + 1) ⟨(by (try dsimp only); omega), ?_⟩ (by (try dsimp only); omega) ⟨rfl, rfl, rfl, trivial⟩ tk
        (try dsimp only)
        rw [List.take_succ_eq_append_getElem hix, List.take_succ_eq_append_getElem hiy, ht, ← ex, ← ey, Classical.not_not.1 h2]
    · refine s_exit rfl ?_
      refine s_seq ?_
      refine s_region ?_
      refine s_q (y_assign rfl) rfl ?_
      refine s_done ?_
      have : i = xs.length := by omega
      subst this
      rw [List.take_length, hl, List.take_length] at ht
      exact s_return ⟨by rw [decide_eq_true ht], rfl⟩ (res_tmp Tryz.results13 rfl)
end Go.Proofs.YtdbnlgknalencaaGreat
