/- Layer 23 (brief), the document's: rising, within, Right, all, at, Worth. -/
import Derived.Test.YtdbnlgknalencaaGreatBrgBG
import Derived.Test.YtdbnlgknalencaaGreatEEb
set_option linter.unusedVariables false
set_option linter.unusedSimpArgs false
namespace Go.Proofs.YtdbnlgknalencaaGreat
open Go Go.E
set_option maxRecDepth 4000
set_option maxHeartbeats 1000000
theorem rRising_spec (w : World) (N : Nat → Prop) (A : Option Addr) (c n : Nat) (xs : List Int) (hn : n = xs.length) (ho : Owns w [] N) (hk : KI w N A xs) (hlen : xs.length < 100000000000000) :
    Ret Tryz.prog 34 [.slice A n c] w N fun v L => v = .bool (risB 0 xs) ∧ L = [] := by
  subst hn
  refine ret_of_J cx Tryz.func34 rfl (Nat.le_of_ble_eq_true rfl) ho ?_
  refine s_seq ?_
  refine s_region ?_
  refine s_q (y_assign rfl) rfl ?_
  refine s_done ?_
  refine s_seq ?_
  refine s_seq ?_
  refine s_region ?_
  refine s_q (y_assign rfl) rfl ?_
  refine s_done ?_
  refine s_block ?_
  refine s_loopV (σ := Nat × Int) (fun s => [(3, .int .i64 s.1)]) (fun s => []) (fun s => (s.1 ≤ xs.length) ∧ ((s.1 = 0 ∧ s.2 = 0) ∨ (0 < s.1 ∧ s.2 = xs.getD (s.1 - 1) 0 ∧ 1 ≤ s.2)) ∧ (risB s.2 (xs.drop s.1) = risB 0 xs)) (fun s => xs.length - s.1) (0, 0) [(0, _)] ⟨rfl, trivial⟩ ⟨rfl, trivial⟩ tk ⟨Nat.zero_le _, .inl ⟨rfl, rfl⟩, rfl⟩ ?_
  rintro ⟨k, p⟩ ⟨hk2, hp, hf⟩
  try dsimp only [List.cons_append, List.nil_append, List.append_nil] at hk2 hp hf ⊢
  refine s_seq ?_
  refine s_seq ?_
  refine s_region ?_
  refine s_q (y_move rfl) rfl ?_
  refine s_q (y_move rfl) rfl ?_
  refine s_q (y_lenS rfl rfl rfl) rfl ?_
  refine s_q (y_lss rfl rfl) rfl ?_
  refine s_done ?_
  refine s_cond rfl (fun h => ?_) (fun h => ?_)
  · have hkl : k < xs.length := by omega
    rw [drop_D 0 xs k hkl, risB] at hf
    obtain ⟨v, hvv⟩ : ∃ v, xs.getD k 0 = v := ⟨_, rfl⟩
    rw [hvv] at hf
    refine s_skip ?_
    refine s_seq ?_
    refine s_block ?_
    refine s_seq ?_
    refine d_start ?_
    refine d_take 0 rfl (by kernel_rfl) (y_move rfl) rfl ?_
    refine d_take 1 rfl (by kernel_rfl) (y_move rfl) rfl ?_
    refine d_take 2 rfl (by kernel_rfl) (by (first | exact y_ixI rfl rfl rfl rfl rfl hk rfl (by omega) (by omega) | exact y_ixI rfl rfl rfl rfl rfl (by assumption) rfl (by omega) (by omega))) rfl ?_
    refine d_take 3 rfl (by kernel_rfl) (by (first | exact y_as (y_ldK rfl rfl rfl rfl hk (by omega)) (congrArg (Value.int .i64) hvv) | exact y_ldK rfl rfl rfl rfl hk (by omega) | exact y_ld rfl rfl rfl (by rfl) | exact y_ldN rfl rfl rfl (by rfl) | exact y_ldK rfl rfl rfl rfl (by assumption) (by omega) | exact y_ldI rfl rfl rfl rfl (by assumption) (by omega) (by omega))) rfl ?_
    refine d_take 4 rfl (by kernel_rfl) (y_lss rfl rfl) rfl ?_
    refine d_take 5 rfl (by kernel_rfl) (y_move rfl) rfl ?_
    first | refine d_split (t := 14) rfl (fun c1 => ?_) (fun c1 => ?_) | refine d_splitb (t := 14) rfl (fun c1 => ?_) (fun c1 => ?_)
    · skip
      first | refine d_known (t := 15) (b := true) rfl (decide_eq_true c1) ?_ | refine d_known (t := 15) (b := true) rfl c1 ?_
      refine d_skip 6 rfl (by kernel_rfl) (fun c e => by cases e) rfl rfl rfl rfl ?_
      refine d_skip 7 rfl (by kernel_rfl) (fun c e => by cases e) rfl rfl rfl rfl ?_
      refine d_skip 8 rfl (by kernel_rfl) (fun c e => by cases e) rfl rfl rfl rfl ?_
      refine d_skip 9 rfl (by kernel_rfl) (fun c e => by cases e) rfl rfl rfl rfl ?_
      refine d_skip 10 rfl (by kernel_rfl) (fun c e => by cases e) rfl rfl rfl rfl ?_
      refine d_take 11 rfl (by kernel_rfl) (y_pickT rfl rfl) rfl ?_
      refine d_take 12 rfl (by kernel_rfl) (y_move rfl) rfl ?_
      refine d_skip 13 rfl (by kernel_rfl) (fun c e => by cases e) rfl rfl rfl rfl ?_
      refine d_skip 14 rfl (by kernel_rfl) (fun c e => by cases e) rfl rfl rfl rfl ?_
      refine d_skip 15 rfl (by kernel_rfl) (fun c e => by cases e) rfl rfl rfl rfl ?_
      refine d_skipU 16 rfl (by kernel_rfl) (fun c e => by cases e) rfl rfl rfl ?_
      refine d_skipU 17 rfl (by kernel_rfl) (fun c e => by cases e) rfl rfl rfl ?_
      refine d_skipU 18 rfl (by kernel_rfl) (fun c e => by cases e) rfl rfl rfl ?_
      refine d_skipU 19 rfl (by kernel_rfl) (fun c e => by cases e) rfl rfl rfl ?_
      refine d_skipU 20 rfl (by kernel_rfl) (fun c e => by cases e) rfl rfl rfl ?_
      refine d_skipU 21 rfl (by kernel_rfl) (fun c e => by cases e) rfl rfl rfl ?_
      refine d_skipU 22 rfl (by kernel_rfl) (fun c e => by cases e) rfl rfl rfl ?_
      refine d_skipU 23 rfl (by kernel_rfl) (fun c e => by cases e) rfl rfl rfl ?_
      refine d_skipU 24 rfl (by kernel_rfl) (fun c e => by cases e) rfl rfl rfl ?_
      refine d_skipU 25 rfl (by kernel_rfl) (fun c e => by cases e) rfl rfl rfl ?_
      refine d_skip 26 rfl (by kernel_rfl) (fun c e => by cases e) rfl rfl rfl rfl ?_
      refine d_take 27 rfl (by kernel_rfl) (y_pickT rfl rfl) rfl ?_
      refine d_done (by kernel_rfl) ?_
      refine s_condT rfl ?_
      refine s_seq ?_
      refine s_region ?_
      refine s_q (y_assign rfl) rfl ?_
      refine s_done ?_
      exact s_return ⟨(by rw [← hf, decide_eq_false (by omega)]; rfl), rfl⟩ (res_tmp Tryz.results34 rfl)
    first | refine d_known (t := 15) (b := false) rfl (decide_eq_false c1) ?_ | refine d_known (t := 15) (b := false) rfl c1 ?_
    refine d_takeG 6 rfl (by kernel_rfl) rfl rfl (y_move rfl) rfl ?_
    refine d_takeG 7 rfl (by kernel_rfl) rfl rfl (y_move rfl) rfl ?_
    refine d_takeG 8 rfl (by kernel_rfl) rfl rfl (by (first | exact y_ixI rfl rfl rfl rfl rfl hk rfl (by omega) (by omega) | exact y_ixI rfl rfl rfl rfl rfl (by assumption) rfl (by omega) (by omega))) rfl ?_
    refine d_takeG 9 rfl (by kernel_rfl) rfl rfl (by (first | exact y_as (y_ldK rfl rfl rfl rfl hk (by omega)) (congrArg (Value.int .i64) hvv) | exact y_ldK rfl rfl rfl rfl hk (by omega) | exact y_ld rfl rfl rfl (by rfl) | exact y_ldN rfl rfl rfl (by rfl) | exact y_ldK rfl rfl rfl rfl (by assumption) (by omega) | exact y_ldI rfl rfl rfl rfl (by assumption) (by omega) (by omega))) rfl ?_
    refine d_takeG 10 rfl (by kernel_rfl) rfl rfl (y_gtr rfl rfl) rfl ?_
    refine d_take 11 rfl (by kernel_rfl) (y_pickF rfl rfl) rfl ?_
    refine d_take 12 rfl (by kernel_rfl) (y_move rfl) rfl ?_
    first | refine d_split (t := 20) rfl (fun c2 => ?_) (fun c2 => ?_) | refine d_splitb (t := 20) rfl (fun c2 => ?_) (fun c2 => ?_)
    · skip
      first | refine d_known (t := 22) (b := true) rfl (decide_eq_true c2) ?_ | refine d_known (t := 22) (b := true) rfl c2 ?_
      refine d_skip 13 rfl (by kernel_rfl) (fun c e => by cases e) rfl rfl rfl rfl ?_
      refine d_skip 14 rfl (by kernel_rfl) (fun c e => by cases e) rfl rfl rfl rfl ?_
      refine d_skip 15 rfl (by kernel_rfl) (fun c e => by cases e) rfl rfl rfl rfl ?_
      refine d_skipU 16 rfl (by kernel_rfl) (fun c e => by cases e) rfl rfl rfl ?_
      refine d_skipU 17 rfl (by kernel_rfl) (fun c e => by cases e) rfl rfl rfl ?_
      refine d_skipU 18 rfl (by kernel_rfl) (fun c e => by cases e) rfl rfl rfl ?_
      refine d_skipU 19 rfl (by kernel_rfl) (fun c e => by cases e) rfl rfl rfl ?_
      refine d_skipU 20 rfl (by kernel_rfl) (fun c e => by cases e) rfl rfl rfl ?_
      refine d_skipU 21 rfl (by kernel_rfl) (fun c e => by cases e) rfl rfl rfl ?_
      refine d_skipU 22 rfl (by kernel_rfl) (fun c e => by cases e) rfl rfl rfl ?_
      refine d_skipU 23 rfl (by kernel_rfl) (fun c e => by cases e) rfl rfl rfl ?_
      refine d_skipU 24 rfl (by kernel_rfl) (fun c e => by cases e) rfl rfl rfl ?_
      refine d_skipU 25 rfl (by kernel_rfl) (fun c e => by cases e) rfl rfl rfl ?_
      refine d_skip 26 rfl (by kernel_rfl) (fun c e => by cases e) rfl rfl rfl rfl ?_
      refine d_take 27 rfl (by kernel_rfl) (y_pickT rfl rfl) rfl ?_
      refine d_done (by kernel_rfl) ?_
      refine s_condT rfl ?_
      refine s_seq ?_
      refine s_region ?_
      refine s_q (y_assign rfl) rfl ?_
      refine s_done ?_
      exact s_return ⟨(by rw [← hf, decide_eq_false (by omega)]; rfl), rfl⟩ (res_tmp Tryz.results34 rfl)
    first | refine d_known (t := 22) (b := false) rfl (decide_eq_false c2) ?_ | refine d_known (t := 22) (b := false) rfl c2 ?_
    refine d_takeG 13 rfl (by kernel_rfl) rfl rfl (y_move rfl) rfl ?_
    refine d_takeG 14 rfl (by kernel_rfl) rfl rfl (y_gtr rfl rfl) rfl ?_
    refine d_takeG 15 rfl (by kernel_rfl) rfl rfl (y_move rfl) rfl ?_
    first | refine d_split (t := 24) rfl (fun c3 => ?_) (fun c3 => ?_) | refine d_splitb (t := 24) rfl (fun c3 => ?_) (fun c3 => ?_)
    · skip
      first | refine d_known (t := 25) (b := true) rfl (decide_eq_true c3) ?_ | refine d_known (t := 25) (b := true) rfl c3 ?_
      refine d_takeG 16 rfl (by kernel_rfl) rfl rfl (y_move rfl) rfl ?_
      refine d_takeG 17 rfl (by kernel_rfl) rfl rfl (y_move rfl) rfl ?_
      refine d_takeG 18 rfl (by kernel_rfl) rfl rfl (by (first | exact y_as (y_sub rfl rfl (by omega)) (congrArg (Value.int .i64) (show (k : Int) - 1 = ((k - 1 : Nat) : Int) by omega)) | exact y_sub rfl rfl (by omega))) rfl ?_
      refine d_takeG 19 rfl (by kernel_rfl) rfl rfl (by (first | exact y_ixI rfl rfl rfl rfl rfl hk rfl (by omega) (by omega) | exact y_ixI rfl rfl rfl rfl rfl (by assumption) rfl (by omega) (by omega))) rfl ?_
      refine d_takeG 20 rfl (by kernel_rfl) rfl rfl (by (first | exact y_as (y_ldK rfl rfl rfl rfl hk (by omega)) (congrArg (Value.int .i64) hvv) | exact y_ldK rfl rfl rfl rfl hk (by omega) | exact y_ld rfl rfl rfl (by rfl) | exact y_ldN rfl rfl rfl (by rfl) | exact y_ldK rfl rfl rfl rfl (by assumption) (by omega) | exact y_ldI rfl rfl rfl rfl (by assumption) (by omega) (by omega))) rfl ?_
      refine d_takeG 21 rfl (by kernel_rfl) rfl rfl (y_move rfl) rfl ?_
      refine d_takeG 22 rfl (by kernel_rfl) rfl rfl (y_move rfl) rfl ?_
      refine d_takeG 23 rfl (by kernel_rfl) rfl rfl (by (first | exact y_ixI rfl rfl rfl rfl rfl hk rfl (by omega) (by omega) | exact y_ixI rfl rfl rfl rfl rfl (by assumption) rfl (by omega) (by omega))) rfl ?_
      refine d_takeG 24 rfl (by kernel_rfl) rfl rfl (by (first | exact y_as (y_ldK rfl rfl rfl rfl hk (by omega)) (congrArg (Value.int .i64) hvv) | exact y_ldK rfl rfl rfl rfl hk (by omega) | exact y_ld rfl rfl rfl (by rfl) | exact y_ldN rfl rfl rfl (by rfl) | exact y_ldK rfl rfl rfl rfl (by assumption) (by omega) | exact y_ldI rfl rfl rfl rfl (by assumption) (by omega) (by omega))) rfl ?_
      refine d_takeG 25 rfl (by kernel_rfl) rfl rfl (y_geq rfl rfl) rfl ?_
      refine d_takeG 26 rfl (by kernel_rfl) rfl rfl (y_pickT rfl rfl) rfl ?_
      refine d_take 27 rfl (by kernel_rfl) (y_pickF rfl rfl) rfl ?_
      refine d_done (by kernel_rfl) ?_
      first | refine J.split (t := 35) rfl (fun c4 => ?_) (fun c4 => ?_) | refine J.splitb (t := 35) rfl (fun c4 => ?_) (fun c4 => ?_)
      · skip
        first | refine J.known (t := 37) (b := true) rfl (decide_eq_true c4) ?_ | refine J.known (t := 37) (b := true) rfl c4 ?_
        refine s_condT rfl ?_
        refine s_seq ?_
        refine s_region ?_
        refine s_q (y_assign rfl) rfl ?_
        refine s_done ?_
        exact s_return ⟨(by rw [← hf, decide_eq_false (by omega)]; rfl), rfl⟩ (res_tmp Tryz.results34 rfl)
      first | refine J.known (t := 37) (b := false) rfl (decide_eq_false c4) ?_ | refine J.known (t := 37) (b := false) rfl c4 ?_
      refine s_condF rfl ?_
      refine s_skip ?_
      refine s_endb ?_
      refine s_region ?_
      refine s_q (y_move rfl) rfl ?_
      refine s_q (y_add rfl rfl (by omega)) rfl ?_
      refine s_q (y_assign rfl) rfl ?_
      refine s_done ?_
      refine s_inv (k + 1, v) ⟨(by (try dsimp only); omega), (.inr ⟨Nat.succ_pos k, hvv.symm, (by (try dsimp only); omega)⟩), (by (try dsimp only); rw [← hf, decide_eq_true (by omega)]; rfl)⟩ (by (try dsimp only); omega) ⟨rfl, rfl, trivial⟩ tk
    first | refine d_known (t := 25) (b := false) rfl (decide_eq_false c3) ?_ | refine d_known (t := 25) (b := false) rfl c3 ?_
    refine d_skip 16 rfl (by kernel_rfl) (fun c e => by cases e) rfl rfl rfl rfl ?_
    refine d_skip 17 rfl (by kernel_rfl) (fun c e => by cases e) rfl rfl rfl rfl ?_
    refine d_skip 18 rfl (by kernel_rfl) (fun c e => by cases e) rfl rfl rfl rfl ?_
    refine d_skip 19 rfl (by kernel_rfl) (fun c e => by cases e) rfl rfl rfl rfl ?_
    refine d_skip 20 rfl (by kernel_rfl) (fun c e => by cases e) rfl rfl rfl rfl ?_
    refine d_skip 21 rfl (by kernel_rfl) (fun c e => by cases e) rfl rfl rfl rfl ?_
    refine d_skip 22 rfl (by kernel_rfl) (fun c e => by cases e) rfl rfl rfl rfl ?_
    refine d_skip 23 rfl (by kernel_rfl) (fun c e => by cases e) rfl rfl rfl rfl ?_
    refine d_skip 24 rfl (by kernel_rfl) (fun c e => by cases e) rfl rfl rfl rfl ?_
    refine d_skip 25 rfl (by kernel_rfl) (fun c e => by cases e) rfl rfl rfl rfl ?_
    refine d_takeG 26 rfl (by kernel_rfl) rfl rfl (y_pickF rfl rfl) rfl ?_
    refine d_take 27 rfl (by kernel_rfl) (y_pickF rfl rfl) rfl ?_
    refine d_done (by kernel_rfl) ?_
    refine s_condF rfl ?_
    refine s_skip ?_
    refine s_endb ?_
    refine s_region ?_
    refine s_q (y_move rfl) rfl ?_
    refine s_q (y_add rfl rfl (by omega)) rfl ?_
    refine s_q (y_assign rfl) rfl ?_
    refine s_done ?_
    refine s_inv (k + 1, v) ⟨(by (try dsimp only); omega), (.inr ⟨Nat.succ_pos k, hvv.symm, (by (try dsimp only); omega)⟩), (by (try dsimp only); rw [← hf, decide_eq_true (by omega)]; rfl)⟩ (by (try dsimp only); omega) ⟨rfl, rfl, trivial⟩ tk
  · rw [List.drop_of_length_le (by omega), risB] at hf
    refine s_exit rfl ?_
    refine s_seq ?_
    refine s_region ?_
    refine s_q (y_assign rfl) rfl ?_
    refine s_done ?_
    exact s_return ⟨by rw [← hf], rfl⟩ (res_tmp Tryz.results34 rfl)
theorem rWithin_spec (w : World) (N : Nat → Prop) (A : Option Addr) (c n : Nat) (xs : List Int) (lo hi : Int) (hn : n = xs.length) (ho : Owns w [] N) (hk : KI w N A xs) (hlen : xs.length < 100000000000000) :
    Ret Tryz.prog 35 [.slice A n c, .int .i64 lo, .int .i64 hi] w N fun v L => v = .bool (xs.all (inB lo hi)) ∧ L = [] := by
  subst hn
  refine ret_of_J cx Tryz.func35 rfl (Nat.le_of_ble_eq_true rfl) ho ?_
  refine s_seq ?_
  refine s_region ?_
  refine s_q (y_assign rfl) rfl ?_
  refine s_done ?_
  refine s_seq ?_
  refine s_seq ?_
  refine s_region ?_
  refine s_q (y_assign rfl) rfl ?_
  refine s_done ?_
  refine s_block ?_
  refine s_loopV (σ := Nat) (fun s => [(7, .int .i64 s)]) (fun s => []) (fun s => (s ≤ xs.length) ∧ ((xs.drop s).all (inB lo hi) = xs.all (inB lo hi))) (fun s => xs.length - s) (0) [(0, _), (1, _), (2, _)] ⟨rfl, rfl, rfl, trivial⟩ ⟨rfl, trivial⟩ tk ⟨Nat.zero_le _, rfl⟩ ?_
  rintro k ⟨hk2, hf⟩
  try dsimp only [List.cons_append, List.nil_append, List.append_nil] at hk2 hf ⊢
  refine s_seq ?_
  refine s_seq ?_
  refine s_region ?_
  refine s_q (y_move rfl) rfl ?_
  refine s_q (y_move rfl) rfl ?_
  refine s_q (y_lenS rfl rfl rfl) rfl ?_
  refine s_q (y_lss rfl rfl) rfl ?_
  refine s_done ?_
  refine s_cond rfl (fun h => ?_) (fun h => ?_)
  · have hkl : k < xs.length := by omega
    rw [drop_D 0 xs k hkl, List.all_cons] at hf
    refine s_skip ?_
    refine s_seq ?_
    refine s_block ?_
    refine s_seq ?_
    refine s_region ?_
    refine s_q (y_move rfl) rfl ?_
    refine s_q (y_move rfl) rfl ?_
    refine s_q (by (first | exact y_ixI rfl rfl rfl rfl rfl hk rfl (by omega) (by omega) | exact y_ixI rfl rfl rfl rfl rfl (by assumption) rfl (by omega) (by omega))) rfl ?_
    refine s_q (by (first | exact y_ldK rfl rfl rfl rfl hk (by omega) | exact y_ld rfl rfl rfl (by rfl) | exact y_ldN rfl rfl rfl (by rfl) | exact y_ldK rfl rfl rfl rfl (by assumption) (by omega) | exact y_ldI rfl rfl rfl rfl (by assumption) (by omega) (by omega))) rfl ?_
    refine s_q (y_move rfl) rfl ?_
    refine s_q (y_lss rfl rfl) rfl ?_
    refine s_q (y_move rfl) rfl ?_
    first | refine J.split (t := 19) rfl (fun c1 => ?_) (fun c1 => ?_) | refine J.splitb (t := 19) rfl (fun c1 => ?_) (fun c1 => ?_)
    · skip
      first | refine J.known (t := 20) (b := true) rfl (decide_eq_true c1) ?_ | refine J.known (t := 20) (b := true) rfl c1 ?_
      refine s_unguard2 (b := true) rfl rfl rfl rfl rfl ?_
      refine s_unguard2 (b := true) rfl rfl rfl rfl rfl ?_
      refine s_unguard2 (b := true) rfl rfl rfl rfl rfl ?_
      refine s_unguard2 (b := true) rfl rfl rfl rfl rfl ?_
      refine s_unguard2 (b := true) rfl rfl rfl rfl rfl ?_
      refine s_unguard2 (b := true) rfl rfl rfl rfl rfl ?_
      refine s_q (y_pickT rfl rfl) rfl ?_
      refine s_done ?_
      refine s_condT rfl ?_
      refine s_seq ?_
      refine s_region ?_
      refine s_q (y_assign rfl) rfl ?_
      refine s_done ?_
      exact s_return ⟨(by rw [← hf, inB, decide_eq_false (by omega)]; rfl), rfl⟩ (res_tmp Tryz.results35 rfl)
    first | refine J.known (t := 20) (b := false) rfl (decide_eq_false c1) ?_ | refine J.known (t := 20) (b := false) rfl c1 ?_
    refine s_guard rfl rfl ?_
    refine s_q (y_move rfl) rfl ?_
    refine s_guard rfl rfl ?_
    refine s_q (y_move rfl) rfl ?_
    refine s_guard rfl rfl ?_
    refine s_q (by (first | exact y_ixI rfl rfl rfl rfl rfl hk rfl (by omega) (by omega) | exact y_ixI rfl rfl rfl rfl rfl (by assumption) rfl (by omega) (by omega))) rfl ?_
    refine s_guard rfl rfl ?_
    refine s_q (by (first | exact y_ldK rfl rfl rfl rfl hk (by omega) | exact y_ld rfl rfl rfl (by rfl) | exact y_ldN rfl rfl rfl (by rfl) | exact y_ldK rfl rfl rfl rfl (by assumption) (by omega) | exact y_ldI rfl rfl rfl rfl (by assumption) (by omega) (by omega))) rfl ?_
    refine s_guard rfl rfl ?_
    refine s_q (y_move rfl) rfl ?_
    refine s_guard rfl rfl ?_
    refine s_q (y_gtr rfl rfl) rfl ?_
    refine s_q (y_pickF rfl rfl) rfl ?_
    refine s_done ?_
    first | refine J.split (t := 26) rfl (fun c2 => ?_) (fun c2 => ?_) | refine J.splitb (t := 26) rfl (fun c2 => ?_) (fun c2 => ?_)
    · skip
      first | refine J.known (t := 27) (b := true) rfl (decide_eq_true c2) ?_ | refine J.known (t := 27) (b := true) rfl c2 ?_
      refine s_condT rfl ?_
      refine s_seq ?_
      refine s_region ?_
      refine s_q (y_assign rfl) rfl ?_
      refine s_done ?_
      exact s_return ⟨(by rw [← hf, inB, decide_eq_false (by omega)]; rfl), rfl⟩ (res_tmp Tryz.results35 rfl)
    first | refine J.known (t := 27) (b := false) rfl (decide_eq_false c2) ?_ | refine J.known (t := 27) (b := false) rfl c2 ?_
    refine s_condF rfl ?_
    refine s_skip ?_
    refine s_endb ?_
    refine s_region ?_
    refine s_q (y_move rfl) rfl ?_
    refine s_q (y_add rfl rfl (by omega)) rfl ?_
    refine s_q (y_assign rfl) rfl ?_
    refine s_done ?_
    refine s_inv (k + 1) ⟨(by (try dsimp only); omega), (by (try dsimp only); rw [← hf, inB, decide_eq_true (by omega)]; rfl)⟩ (by (try dsimp only); omega) ⟨rfl, rfl, rfl, rfl, trivial⟩ tk
  · rw [List.drop_of_length_le (by omega), List.all_nil] at hf
    refine s_exit rfl ?_
    refine s_seq ?_
    refine s_region ?_
    refine s_q (y_assign rfl) rfl ?_
    refine s_done ?_
    exact s_return ⟨by rw [← hf], rfl⟩ (res_tmp Tryz.results35 rfl)
theorem rRight_spec (w : World) (N : Nat → Prop) (b : BrD) (ho : Owns w [] N) (hk : KR w N b) (hok : b.ok) : Ret Tryz.prog 21 [.agg (encBr b).toArray] w N fun v L => v = .bool (rightB b) ∧ L = [] := by
  have hv := hok.v
  have hc := hok.c
  have he := hok.e
  refine ret_of_J cx Tryz.func21 rfl (Nat.le_of_ble_eq_true rfl) ho ?_
  refine s_seq ?_
  refine s_region ?_
  first | (refine s_box1 rfl rfl rfl (fun b1 => ?_)) | (refine s_boxA rfl rfl (fun b1 => ?_))
  change J _ _ _ (cb b1 46 (encBr b) :: _) _
  refine s_q (y_assign rfl) rfl ?_
  refine s_done ?_
  refine s_seq ?_
  refine s_region ?_
  refine s_q (by (first | exact y_fieldAddrB rfl rfl rfl rfl rfl rfl | exact y_fieldAddr rfl rfl rfl rfl rfl rfl)) rfl ?_
  refine s_q (by (first | exact y_ld rfl rfl rfl (by rfl) | exact y_ldN rfl rfl rfl (by rfl) | exact y_ldK rfl rfl rfl rfl (by assumption) (by omega) | exact y_ldI rfl rfl rfl rfl (by assumption) (by omega) (by omega))) rfl ?_
  refine s_call (pre := []) (rem := _) rfl rfl tk (fun w N ho hl => rRising_spec w N b.A b.c _ b.vars rfl ho (hk.v.of hl) hv) rfl ?_
  rintro e L' ⟨rfl, rfl⟩
  try simp only [List.nil_append, List.cons_append, List.append_nil]
  refine s_q (y_move rfl) rfl ?_
  first | refine J.split (t := 5) rfl (fun c1 => ?_) (fun c1 => ?_) | refine J.splitb (t := 5) rfl (fun c1 => ?_) (fun c1 => ?_)
  · skip
    first | refine J.known (t := 6) (b := true) rfl (decide_eq_true c1) ?_ | refine J.known (t := 6) (b := true) rfl c1 ?_
    refine s_guard rfl rfl ?_
    refine s_q (by (first | exact y_fieldAddrB rfl rfl rfl rfl rfl rfl | exact y_fieldAddr rfl rfl rfl rfl rfl rfl)) rfl ?_
    refine s_guard rfl rfl ?_
    refine s_q (by (first | exact y_ld rfl rfl rfl (by rfl) | exact y_ldN rfl rfl rfl (by rfl) | exact y_ldK rfl rfl rfl rfl (by assumption) (by omega) | exact y_ldI rfl rfl rfl rfl (by assumption) (by omega) (by omega))) rfl ?_
    refine s_guard rfl rfl ?_
    refine s_q (y_lenS rfl rfl rfl) rfl ?_
    refine s_guard rfl rfl ?_
    refine s_q (by (first | exact y_fieldAddrB rfl rfl rfl rfl rfl rfl | exact y_fieldAddr rfl rfl rfl rfl rfl rfl)) rfl ?_
    refine s_guard rfl rfl ?_
    refine s_q (by (first | exact y_ld rfl rfl rfl (by rfl) | exact y_ldN rfl rfl rfl (by rfl) | exact y_ldK rfl rfl rfl rfl (by assumption) (by omega) | exact y_ldI rfl rfl rfl rfl (by assumption) (by omega) (by omega))) rfl ?_
    refine s_guard rfl rfl ?_
    refine s_q (y_lenS rfl rfl rfl) rfl ?_
    refine s_guard rfl rfl ?_
    refine s_q (by (first | exact y_eql rfl rfl | exact y_eqlB rfl rfl rfl)) rfl ?_
    refine s_q (y_pickT rfl rfl) rfl ?_
    refine s_q (y_move rfl) rfl ?_
    first | refine J.split (t := 13) rfl (fun c2 => ?_) (fun c2 => ?_) | refine J.splitb (t := 13) rfl (fun c2 => ?_) (fun c2 => ?_)
    · skip
      first | refine J.known (t := 15) (b := true) rfl (decide_eq_true c2) ?_ | refine J.known (t := 15) (b := true) rfl c2 ?_
      refine s_guard rfl rfl ?_
      refine s_q (by (first | exact y_fieldAddrB rfl rfl rfl rfl rfl rfl | exact y_fieldAddr rfl rfl rfl rfl rfl rfl)) rfl ?_
      refine s_guard rfl rfl ?_
      refine s_q (by (first | exact y_ld rfl rfl rfl (by rfl) | exact y_ldN rfl rfl rfl (by rfl) | exact y_ldK rfl rfl rfl rfl (by assumption) (by omega) | exact y_ldI rfl rfl rfl rfl (by assumption) (by omega) (by omega))) rfl ?_
      refine s_guard rfl rfl ?_
      refine s_q (y_lenS rfl rfl rfl) rfl ?_
      refine s_guard rfl rfl ?_
      refine s_q (by (first | exact y_fieldAddrB rfl rfl rfl rfl rfl rfl | exact y_fieldAddr rfl rfl rfl rfl rfl rfl)) rfl ?_
      refine s_guard rfl rfl ?_
      refine s_q (by (first | exact y_ld rfl rfl rfl (by rfl) | exact y_ldN rfl rfl rfl (by rfl) | exact y_ldK rfl rfl rfl rfl (by assumption) (by omega) | exact y_ldI rfl rfl rfl rfl (by assumption) (by omega) (by omega))) rfl ?_
      refine s_guard rfl rfl ?_
      refine s_q (y_lenS rfl rfl rfl) rfl ?_
      refine s_guard rfl rfl ?_
      refine s_q (by (first | exact y_eql rfl rfl | exact y_eqlB rfl rfl rfl)) rfl ?_
      refine s_q (y_pickT rfl rfl) rfl ?_
      refine s_q (y_move rfl) rfl ?_
      first | refine J.split (t := 22) rfl (fun c3 => ?_) (fun c3 => ?_) | refine J.splitb (t := 22) rfl (fun c3 => ?_) (fun c3 => ?_)
      · skip
        first | refine J.known (t := 24) (b := true) rfl (decide_eq_true c3) ?_ | refine J.known (t := 24) (b := true) rfl c3 ?_
        refine s_guard rfl rfl ?_
        refine s_q (by (first | exact y_fieldAddrB rfl rfl rfl rfl rfl rfl | exact y_fieldAddr rfl rfl rfl rfl rfl rfl)) rfl ?_
        refine s_guard rfl rfl ?_
        refine s_q (by (first | exact y_ld rfl rfl rfl (by rfl) | exact y_ldN rfl rfl rfl (by rfl) | exact y_ldK rfl rfl rfl rfl (by assumption) (by omega) | exact y_ldI rfl rfl rfl rfl (by assumption) (by omega) (by omega))) rfl ?_
        refine s_guard rfl rfl ?_
        refine s_call (pre := []) (rem := _) rfl rfl tk (fun w N ho hl => rWithin_spec w N b.B b.d _ b.cols (-1) 63 rfl ho (hk.c.of hl) hc) rfl ?_
        rintro e L' ⟨rfl, rfl⟩
        try simp only [List.nil_append, List.cons_append, List.append_nil]
        refine s_q (y_pickT rfl rfl) rfl ?_
        refine s_q (y_move rfl) rfl ?_
        first | refine J.split (t := 27) rfl (fun c4 => ?_) (fun c4 => ?_) | refine J.splitb (t := 27) rfl (fun c4 => ?_) (fun c4 => ?_)
        · skip
          first | refine J.known (t := 29) (b := true) rfl (decide_eq_true c4) ?_ | refine J.known (t := 29) (b := true) rfl c4 ?_
          refine s_guard rfl rfl ?_
          refine s_q (by (first | exact y_fieldAddrB rfl rfl rfl rfl rfl rfl | exact y_fieldAddr rfl rfl rfl rfl rfl rfl)) rfl ?_
          refine s_guard rfl rfl ?_
          refine s_q (by (first | exact y_ld rfl rfl rfl (by rfl) | exact y_ldN rfl rfl rfl (by rfl) | exact y_ldK rfl rfl rfl rfl (by assumption) (by omega) | exact y_ldI rfl rfl rfl rfl (by assumption) (by omega) (by omega))) rfl ?_
          refine s_guard rfl rfl ?_
          refine s_call (pre := []) (rem := _) rfl rfl tk (fun w N ho hl => rWithin_spec w N b.C b.e _ b.edge 0 1099511627776 rfl ho (hk.e.of hl) he) rfl ?_
          rintro e L' ⟨rfl, rfl⟩
          try simp only [List.nil_append, List.cons_append, List.append_nil]
          refine s_q (y_pickT rfl rfl) rfl ?_
          refine s_q (y_assign rfl) rfl ?_
          refine s_done ?_
          first | refine J.split (t := 32) rfl (fun c5 => ?_) (fun c5 => ?_) | refine J.splitb (t := 32) rfl (fun c5 => ?_) (fun c5 => ?_)
          · skip
            first | refine J.known (t := 2) (b := true) rfl (decide_eq_true c5) ?_ | refine J.known (t := 2) (b := true) rfl c5 ?_
            exact s_return ⟨(by simp only [rightB]; congr 1; simp_all [Int.ofNat_inj, -List.all_eq_true, -List.all_eq_false]), rfl⟩ (res_tmp Tryz.results21 rfl)
          first | refine J.known (t := 2) (b := false) rfl (decide_eq_false c5) ?_ | refine J.known (t := 2) (b := false) rfl c5 ?_
          exact s_return ⟨(by simp only [rightB]; congr 1; simp_all [Int.ofNat_inj, -List.all_eq_true, -List.all_eq_false]), rfl⟩ (res_tmp Tryz.results21 rfl)
        first | refine J.known (t := 29) (b := false) rfl (decide_eq_false c4) ?_ | refine J.known (t := 29) (b := false) rfl c4 ?_
        refine s_unguard2 (b := false) rfl rfl rfl rfl rfl ?_
        refine s_unguard2 (b := false) rfl rfl rfl rfl rfl ?_
        refine s_unguard2 (b := false) rfl rfl rfl rfl rfl ?_
        refine s_q (y_pickF rfl rfl) rfl ?_
        refine s_q (y_assign rfl) rfl ?_
        refine s_done ?_
        exact s_return ⟨(by simp only [rightB]; congr 1; simp_all [Int.ofNat_inj, -List.all_eq_true, -List.all_eq_false]), rfl⟩ (res_tmp Tryz.results21 rfl)
      first | refine J.known (t := 24) (b := false) rfl (decide_eq_false c3) ?_ | refine J.known (t := 24) (b := false) rfl c3 ?_
      refine s_unguard2 (b := false) rfl rfl rfl rfl rfl ?_
      refine s_unguard2 (b := false) rfl rfl rfl rfl rfl ?_
      refine s_unguard2 (b := false) rfl rfl rfl rfl rfl ?_
      refine s_q (y_pickF rfl rfl) rfl ?_
      refine s_q (y_move rfl) rfl ?_
      refine s_unguard2 (b := false) rfl rfl rfl rfl rfl ?_
      refine s_unguard2 (b := false) rfl rfl rfl rfl rfl ?_
      refine s_unguard2 (b := false) rfl rfl rfl rfl rfl ?_
      refine s_q (y_pickF rfl rfl) rfl ?_
      refine s_q (y_assign rfl) rfl ?_
      refine s_done ?_
      exact s_return ⟨(by simp only [rightB]; congr 1; simp_all [Int.ofNat_inj, -List.all_eq_true, -List.all_eq_false]), rfl⟩ (res_tmp Tryz.results21 rfl)
    first | refine J.known (t := 15) (b := false) rfl (decide_eq_false c2) ?_ | refine J.known (t := 15) (b := false) rfl c2 ?_
    refine s_unguard2 (b := false) rfl rfl rfl rfl rfl ?_
    refine s_unguard2 (b := false) rfl rfl rfl rfl rfl ?_
    refine s_unguard2 (b := false) rfl rfl rfl rfl rfl ?_
    refine s_unguard2 (b := false) rfl rfl rfl rfl rfl ?_
    refine s_unguard2 (b := false) rfl rfl rfl rfl rfl ?_
    refine s_unguard2 (b := false) rfl rfl rfl rfl rfl ?_
    refine s_unguard2 (b := false) rfl rfl rfl rfl rfl ?_
    refine s_q (y_pickF rfl rfl) rfl ?_
    refine s_q (y_move rfl) rfl ?_
    refine s_unguard2 (b := false) rfl rfl rfl rfl rfl ?_
    refine s_unguard2 (b := false) rfl rfl rfl rfl rfl ?_
    refine s_unguard2 (b := false) rfl rfl rfl rfl rfl ?_
    refine s_q (y_pickF rfl rfl) rfl ?_
    refine s_q (y_move rfl) rfl ?_
    refine s_unguard2 (b := false) rfl rfl rfl rfl rfl ?_
    refine s_unguard2 (b := false) rfl rfl rfl rfl rfl ?_
    refine s_unguard2 (b := false) rfl rfl rfl rfl rfl ?_
    refine s_q (y_pickF rfl rfl) rfl ?_
    refine s_q (y_assign rfl) rfl ?_
    refine s_done ?_
    exact s_return ⟨(by simp only [rightB]; congr 1; simp_all [Int.ofNat_inj, -List.all_eq_true, -List.all_eq_false]), rfl⟩ (res_tmp Tryz.results21 rfl)
  first | refine J.known (t := 6) (b := false) rfl (decide_eq_false c1) ?_ | refine J.known (t := 6) (b := false) rfl c1 ?_
  refine s_unguard2 (b := false) rfl rfl rfl rfl rfl ?_
  refine s_unguard2 (b := false) rfl rfl rfl rfl rfl ?_
  refine s_unguard2 (b := false) rfl rfl rfl rfl rfl ?_
  refine s_unguard2 (b := false) rfl rfl rfl rfl rfl ?_
  refine s_unguard2 (b := false) rfl rfl rfl rfl rfl ?_
  refine s_unguard2 (b := false) rfl rfl rfl rfl rfl ?_
  refine s_unguard2 (b := false) rfl rfl rfl rfl rfl ?_
  refine s_q (y_pickF rfl rfl) rfl ?_
  refine s_q (y_move rfl) rfl ?_
  refine s_unguard2 (b := false) rfl rfl rfl rfl rfl ?_
  refine s_unguard2 (b := false) rfl rfl rfl rfl rfl ?_
  refine s_unguard2 (b := false) rfl rfl rfl rfl rfl ?_
  refine s_unguard2 (b := false) rfl rfl rfl rfl rfl ?_
  refine s_unguard2 (b := false) rfl rfl rfl rfl rfl ?_
  refine s_unguard2 (b := false) rfl rfl rfl rfl rfl ?_
  refine s_unguard2 (b := false) rfl rfl rfl rfl rfl ?_
  refine s_q (y_pickF rfl rfl) rfl ?_
  refine s_q (y_move rfl) rfl ?_
  refine s_unguard2 (b := false) rfl rfl rfl rfl rfl ?_
  refine s_unguard2 (b := false) rfl rfl rfl rfl rfl ?_
  refine s_unguard2 (b := false) rfl rfl rfl rfl rfl ?_
  refine s_q (y_pickF rfl rfl) rfl ?_
  refine s_q (y_move rfl) rfl ?_
  refine s_unguard2 (b := false) rfl rfl rfl rfl rfl ?_
  refine s_unguard2 (b := false) rfl rfl rfl rfl rfl ?_
  refine s_unguard2 (b := false) rfl rfl rfl rfl rfl ?_
  refine s_q (y_pickF rfl rfl) rfl ?_
  refine s_q (y_assign rfl) rfl ?_
  refine s_done ?_
  exact s_return ⟨(by simp only [rightB]; congr 1; simp_all [Int.ofNat_inj, -List.all_eq_true, -List.all_eq_false]), rfl⟩ (res_tmp Tryz.results21 rfl)
theorem rAt_spec (w : World) (N : Nat → Prop) (A : Option Addr) (c m : Nat) (l : List Int) (n : Int) (hm : m = l.length) (ho : Owns w [] N) (hk : KI w N A l) (hlen : l.length < 100000000000000) :
    Ret Tryz.prog 37 [.slice A m c, .int .i64 n] w N (AtPost l n) := by
  subst hm
  refine ret_of_J cx Tryz.func37 rfl (Nat.le_of_ble_eq_true rfl) ho ?_
  refine s_seq ?_
  refine s_region ?_
  refine s_q (y_assign rfl) rfl ?_
  refine s_done ?_
  refine s_seq ?_
  refine s_seq ?_
  refine s_region ?_
  refine s_q (y_assign rfl) rfl ?_
  refine s_done ?_
  refine s_block ?_
  refine s_loopV (σ := Nat) (fun s => [(5, .int .i64 s)]) (fun s => []) (fun s => (s ≤ l.length) ∧ (∀ j, j < s → l.getD j 0 ≠ n)) (fun s => l.length - s) (0) [(0, _), (1, _)] ⟨rfl, rfl, trivial⟩ ⟨rfl, trivial⟩ tk ⟨Nat.zero_le _, fun j hj => absurd hj (Nat.not_lt_zero j)⟩ ?_
  rintro k ⟨hk2, hf⟩
  try dsimp only [List.cons_append, List.nil_append, List.append_nil] at hk2 hf ⊢
  refine s_seq ?_
  refine s_seq ?_
  refine s_region ?_
  refine s_q (y_move rfl) rfl ?_
  refine s_q (y_move rfl) rfl ?_
  refine s_q (y_lenS rfl rfl rfl) rfl ?_
  refine s_q (y_lss rfl rfl) rfl ?_
  refine s_done ?_
  refine s_cond rfl (fun h => ?_) (fun h => ?_)
  · have hkl : k < l.length := by omega
    refine s_skip ?_
    refine s_seq ?_
    refine s_block ?_
    refine s_seq ?_
    refine s_region ?_
    refine s_q (y_move rfl) rfl ?_
    refine s_q (y_move rfl) rfl ?_
    refine s_q (by (first | exact y_ixI rfl rfl rfl rfl rfl hk rfl (by omega) (by omega) | exact y_ixI rfl rfl rfl rfl rfl (by assumption) rfl (by omega) (by omega))) rfl ?_
    refine s_q (by (first | exact y_ldK rfl rfl rfl rfl hk (by omega) | exact y_ld rfl rfl rfl (by rfl) | exact y_ldN rfl rfl rfl (by rfl) | exact y_ldK rfl rfl rfl rfl (by assumption) (by omega) | exact y_ldI rfl rfl rfl rfl (by assumption) (by omega) (by omega))) rfl ?_
    refine s_q (y_move rfl) rfl ?_
    refine s_q (by (first | exact y_eql rfl rfl | exact y_eqlB rfl rfl rfl)) rfl ?_
    refine s_done ?_
    refine s_cond rfl (fun h2 => ?_) (fun h2 => ?_)
    · refine s_seq ?_
      refine s_region ?_
      refine s_q (y_move rfl) rfl ?_
      refine s_q (y_assign rfl) rfl ?_
      refine s_done ?_
      exact s_return (R := AtPost l n) ⟨k, .inr ⟨k, rfl, hkl, h2⟩, rfl, rfl⟩ (res_tmp Tryz.results37 rfl)
    · refine s_skip ?_
      refine s_endb ?_
      refine s_region ?_
      refine s_q (y_move rfl) rfl ?_
      refine s_q (y_add rfl rfl (by omega)) rfl ?_
      refine s_q (y_assign rfl) rfl ?_
      refine s_done ?_
      refine s_inv (k + 1) ⟨(by (try dsimp only); omega), fun j hj => ?_⟩ (by (try dsimp only); omega) ⟨rfl, rfl, rfl, trivial⟩ tk
      by_cases e : j = k
      · subst e; exact h2
      · exact hf j (by (try dsimp only at hj); omega)
  · refine s_exit rfl ?_
    refine s_seq ?_
    refine s_region ?_
    refine s_q (y_assign rfl) rfl ?_
    refine s_done ?_
    exact s_return (R := AtPost l n) ⟨-1, .inl ⟨rfl, fun hm => by obtain ⟨j, hj, e⟩ := getD_of_mem 0 hm; exact hf j (by omega) e⟩, rfl, rfl⟩ (res_tmp Tryz.results37 rfl)
theorem rAll_spec (w : World) (N : Nat → Prop) (T : Option Addr) (t n : Nat) (l : List BrD) (hn : n = l.length) (ho : Owns w [] N) (hl0 : KBr w N T l) (hok : ∀ b ∈ l, b.ok) (h3 : l.length ≤ 200) :
    Ret Tryz.prog 36 [.slice T n t] w N fun v L => v = .bool (l.all rightB) ∧ L = [] := by
  subst hn
  refine ret_of_J cx Tryz.func36 rfl (Nat.le_of_ble_eq_true rfl) ho ?_
  refine s_seq ?_
  refine s_region ?_
  refine s_q (y_assign rfl) rfl ?_
  refine s_done ?_
  refine s_seq ?_
  refine s_seq ?_
  refine s_region ?_
  refine s_q (y_assign rfl) rfl ?_
  refine s_done ?_
  refine s_block ?_
  refine s_loopV (σ := Nat) (fun s => [(3, .int .i64 s)]) (fun s => []) (fun s => (s ≤ l.length) ∧ ((l.drop s).all rightB = l.all rightB)) (fun s => l.length - s) (0) [(0, _)] ⟨rfl, trivial⟩ ⟨rfl, trivial⟩ tk ⟨Nat.zero_le _, rfl⟩ ?_
  rintro k ⟨hk2, hf⟩
  try dsimp only [List.cons_append, List.nil_append, List.append_nil] at hk2 hf ⊢
  by_cases h : k < l.length
  · have hm := getD_mem BrD.no h
    rw [drop_D .no l k h, List.all_cons] at hf
    refine s_seq ?_
    refine s_seq ?_
    refine s_region ?_
    refine s_q (y_move rfl) rfl ?_
    refine s_q (y_move rfl) rfl ?_
    refine s_q (y_lenS rfl rfl rfl) rfl ?_
    refine s_q (y_lss rfl rfl) rfl ?_
    refine s_q (y_move rfl) rfl ?_
    first | refine J.split (t := 7) rfl (fun c1 => ?_) (fun c1 => ?_) | refine J.splitb (t := 7) rfl (fun c1 => ?_) (fun c1 => ?_)
    · skip
      first | refine J.known (t := 8) (b := true) rfl (decide_eq_true c1) ?_ | refine J.known (t := 8) (b := true) rfl c1 ?_
      refine s_guard rfl rfl ?_
      refine s_q (y_move rfl) rfl ?_
      refine s_guard rfl rfl ?_
      refine s_q (y_leq rfl rfl) rfl ?_
      refine s_q (y_pickT rfl rfl) rfl ?_
      refine s_done ?_
      first | refine J.split (t := 10) rfl (fun c2 => ?_) (fun c2 => ?_) | refine J.splitb (t := 10) rfl (fun c2 => ?_) (fun c2 => ?_)
      · skip
        first | refine J.known (t := 11) (b := true) rfl (decide_eq_true c2) ?_ | refine J.known (t := 11) (b := true) rfl c2 ?_
        refine s_condT rfl ?_
        refine s_skip ?_
        refine s_seq ?_
        refine s_block ?_
        refine s_seq ?_
        refine s_region ?_
        refine s_q (y_move rfl) rfl ?_
        refine s_q (y_move rfl) rfl ?_
        refine s_q (by (first | exact y_ixE hl0.blk rfl rfl rfl rfl rfl rfl (by omega) (by omega) | exact y_ixI rfl rfl rfl rfl rfl (by assumption) rfl (by omega) (by omega))) rfl ?_
        refine s_q (by (first | exact y_ldE hl0.blk rfl rfl rfl (by omega) rfl | exact y_ld rfl rfl rfl (by rfl) | exact y_ldN rfl rfl rfl (by rfl) | exact y_ldK rfl rfl rfl rfl (by assumption) (by omega) | exact y_ldI rfl rfl rfl rfl (by assumption) (by omega) (by omega))) rfl ?_
        refine s_call (pre := []) (rem := _) rfl rfl tk (fun w N ho hl => rRight_spec w N _ ho ((hl0.row _ hm).of hl) (hok _ hm)) rfl ?_
        rintro e L' ⟨rfl, rfl⟩
        try simp only [List.nil_append, List.cons_append, List.append_nil]
        refine s_q (by (first | exact y_notT rfl | exact y_notF rfl | exact y_notp rfl | exact y_notb rfl)) rfl ?_
        refine s_done ?_
        first | refine J.split (t := 18) rfl (fun c3 => ?_) (fun c3 => ?_) | refine J.splitb (t := 18) rfl (fun c3 => ?_) (fun c3 => ?_)
        · skip
          first | refine J.known (t := 19) (b := false) rfl (decide_eq_false (not_not_intro c3)) ?_ | refine J.known (t := 19) (b := false) rfl (congrArg not c3) ?_
          refine s_condF rfl ?_
          refine s_skip ?_
          refine s_endb ?_
          refine s_region ?_
          refine s_q (y_move rfl) rfl ?_
          refine s_q (y_add rfl rfl (by omega)) rfl ?_
          refine s_q (y_assign rfl) rfl ?_
          refine s_done ?_
          refine s_inv (k + 1) ⟨(by (try dsimp only); omega), (by (try dsimp only); rw [← hf]; simp_all)⟩ (by (try dsimp only); omega) ⟨rfl, rfl, trivial⟩ tk
        first | refine J.known (t := 19) (b := true) rfl (decide_eq_true c3) ?_ | refine J.known (t := 19) (b := true) rfl (congrArg not c3) ?_
        refine s_condT rfl ?_
        refine s_seq ?_
        refine s_region ?_
        refine s_q (y_assign rfl) rfl ?_
        refine s_done ?_
        exact s_return ⟨(by first | (exfalso; omega) | (rw [← hf]; simp_all)), rfl⟩ (res_tmp Tryz.results36 rfl)
      first | refine J.known (t := 11) (b := false) rfl (decide_eq_false c2) ?_ | refine J.known (t := 11) (b := false) rfl c2 ?_
      refine s_condF rfl ?_
      refine s_exit rfl ?_
      refine s_seq ?_
      refine s_region ?_
      refine s_q (y_assign rfl) rfl ?_
      refine s_done ?_
      exact s_return ⟨(by first | (exfalso; omega) | (rw [← hf]; simp_all)), rfl⟩ (res_tmp Tryz.results36 rfl)
    first | refine J.known (t := 8) (b := false) rfl (decide_eq_false c1) ?_ | refine J.known (t := 8) (b := false) rfl c1 ?_
    refine s_unguard2 (b := false) rfl rfl rfl rfl rfl ?_
    refine s_unguard2 (b := false) rfl rfl rfl rfl rfl ?_
    refine s_q (y_pickF rfl rfl) rfl ?_
    refine s_done ?_
    refine s_condF rfl ?_
    refine s_exit rfl ?_
    refine s_seq ?_
    refine s_region ?_
    refine s_q (y_assign rfl) rfl ?_
    refine s_done ?_
    exact s_return ⟨(by first | (exfalso; omega) | (rw [← hf]; simp_all)), rfl⟩ (res_tmp Tryz.results36 rfl)
  · rw [List.drop_of_length_le (by omega), List.all_nil] at hf
    refine s_seq ?_
    refine s_seq ?_
    refine s_region ?_
    refine s_q (y_move rfl) rfl ?_
    refine s_q (y_move rfl) rfl ?_
    refine s_q (y_lenS rfl rfl rfl) rfl ?_
    refine s_q (y_lss rfl rfl) rfl ?_
    refine s_q (y_move rfl) rfl ?_
    first | refine J.split (t := 7) rfl (fun c1 => ?_) (fun c1 => ?_) | refine J.splitb (t := 7) rfl (fun c1 => ?_) (fun c1 => ?_)
    rotate_left
    · skip
      first | refine J.known (t := 8) (b := false) rfl (decide_eq_false c1) ?_ | refine J.known (t := 8) (b := false) rfl c1 ?_
      refine s_unguard2 (b := false) rfl rfl rfl rfl rfl ?_
      refine s_unguard2 (b := false) rfl rfl rfl rfl rfl ?_
      refine s_q (y_pickF rfl rfl) rfl ?_
      refine s_done ?_
      refine s_condF rfl ?_
      refine s_exit rfl ?_
      refine s_seq ?_
      refine s_region ?_
      refine s_q (y_assign rfl) rfl ?_
      refine s_done ?_
      exact s_return ⟨(by rw [← hf]), rfl⟩ (res_tmp Tryz.results36 rfl)
    first | refine J.known (t := 8) (b := true) rfl (decide_eq_true c1) ?_ | refine J.known (t := 8) (b := true) rfl c1 ?_
    refine s_guard rfl rfl ?_
    refine s_q (y_move rfl) rfl ?_
    refine s_guard rfl rfl ?_
    refine s_q (y_leq rfl rfl) rfl ?_
    refine s_q (y_pickT rfl rfl) rfl ?_
    refine s_done ?_
    first | refine J.split (t := 10) rfl (fun c2 => ?_) (fun c2 => ?_) | refine J.splitb (t := 10) rfl (fun c2 => ?_) (fun c2 => ?_)
    rotate_left
    · skip
      first | refine J.known (t := 11) (b := false) rfl (decide_eq_false c2) ?_ | refine J.known (t := 11) (b := false) rfl c2 ?_
      refine s_condF rfl ?_
      refine s_exit rfl ?_
      refine s_seq ?_
      refine s_region ?_
      refine s_q (y_assign rfl) rfl ?_
      refine s_done ?_
      exact s_return ⟨(by rw [← hf]), rfl⟩ (res_tmp Tryz.results36 rfl)
    first | refine J.known (t := 11) (b := true) rfl (decide_eq_true c2) ?_ | refine J.known (t := 11) (b := true) rfl c2 ?_
    refine s_condT rfl ?_
    refine s_skip ?_
    refine s_seq ?_
    refine s_block ?_
    refine s_seq ?_
    omega
end Go.Proofs.YtdbnlgknalencaaGreat
