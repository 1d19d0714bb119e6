/- Layer 5 (mach): the contracts of mach.Right and what it calls. -/
import Derived.Test.YtgpebcfeeagoaaaMirP
import Derived.Test.YtgpebcfeeagoaaaMirCx
import Derived.Test.YtgpebcfeeagoaaaEEb
set_option linter.unusedVariables false
set_option linter.unusedSimpArgs false
namespace Go.Proofs.Ytgpebcfeeagoaaa
open Go Go.E
set_option maxRecDepth 4000
set_option maxHeartbeats 1000000
theorem isNaN_spec (w : World) (N : Nat → Prop) (a : Int) (ho : Owns w [] N) : Ret Try.prog 77 [.int .i64 a] w N fun v L => v = .bool false ∧ L = [] := by
  refine ret_of_J cx Try.func77 rfl (Nat.le_of_ble_eq_true rfl) ho ?_
  refine s_seq ?_
  refine s_region ?_
  refine s_q (y_assign rfl) rfl ?_
  refine s_done ?_
  refine s_seq ?_
  refine s_region ?_
  refine s_q (y_move rfl) rfl ?_
  refine s_q (y_move rfl) rfl ?_
  refine s_q (by (first | exact y_as (y_neq (m := a) rfl rfl) (congrArg Value.bool (decide_eq_false (fun h => h rfl))) | exact y_neq rfl rfl | exact y_neqB rfl rfl rfl)) rfl ?_
  refine s_q (y_assign rfl) rfl ?_
  refine s_done ?_
  exact s_return ⟨rfl, rfl⟩ (res_tmp Try.results77 rfl)
theorem Less_spec (w : World) (N : Nat → Prop) (a b : Int) (ho : Owns w [] N) : Ret Try.prog 69 [.int .i64 a, .int .i64 b] w N fun v L => v = .bool (decide (a < b)) ∧ L = [] := by
  refine ret_of_J cx Try.func69 rfl (Nat.le_of_ble_eq_true rfl) ho ?_
  refine s_seq ?_
  refine s_region ?_
  refine s_q (y_assign rfl) rfl ?_
  refine s_done ?_
  refine s_seq ?_
  refine s_region ?_
  refine s_q (y_move rfl) rfl ?_
  refine s_call (pre := []) (rem := _) rfl rfl tk (fun w N ho hl => isNaN_spec w N a ho) rfl ?_
  rintro e L' ⟨rfl, rfl⟩
  try simp only [List.nil_append, List.cons_append, List.append_nil]
  refine s_q (y_move rfl) rfl ?_
  refine s_unguard2 (b := false) rfl rfl (by with_reducible rfl) rfl rfl ?_
  refine s_unguard2 (b := false) rfl rfl (by with_reducible rfl) rfl rfl ?_
  refine s_unguard2 (b := false) rfl rfl (by with_reducible rfl) rfl rfl ?_
  refine s_q (by (first | exact y_pickT rfl rfl | exact y_pickF rfl rfl)) rfl ?_
  refine s_q (y_move rfl) rfl ?_
  refine s_guard2 rfl rfl (by with_reducible rfl) ?_
  refine s_q (y_move rfl) rfl ?_
  refine s_guard2 rfl rfl (by with_reducible rfl) ?_
  refine s_q (y_move rfl) rfl ?_
  refine s_guard2 rfl rfl (by with_reducible rfl) ?_
  refine s_q (y_lss rfl rfl) rfl ?_
  refine s_q (by (first | exact y_pickT rfl rfl | exact y_pickF rfl rfl)) rfl ?_
  refine s_q (y_assign rfl) rfl ?_
  refine s_done ?_
  exact s_return ⟨rfl, rfl⟩ (res_tmp Try.results69 rfl)
theorem IsSorted_spec (w : World) (N : Nat → Prop) (A : Option Addr) (c : Nat) (xs : List Int) (ho : Owns w [] N) (hk : KI w N A xs) (hlen : xs.length < 1000000000) :
    Ret Try.prog 54 [.slice A xs.length c] w N fun v L => v = .bool (sortedB xs) ∧ L = [] := by
  refine ret_of_J cx Try.func54 rfl (Nat.le_of_ble_eq_true rfl) ho ?_
  refine s_seq ?_
  refine s_region ?_
  refine s_q (y_assign rfl) rfl ?_
  refine s_done ?_
  refine s_seq ?_
  refine s_seq ?_
  refine s_region ?_
  refine s_q (y_move rfl) rfl ?_
  refine s_q (y_lenS rfl rfl rfl) rfl ?_
  refine s_q (y_sub rfl rfl (by omega)) rfl ?_
  refine s_q (y_assign rfl) rfl ?_
  refine s_done ?_
  refine s_block ?_
  refine s_loopV (σ := Int) (fun s => [(3, .int .i64 s)]) (fun s => []) (fun s => (s < xs.length) ∧ (-1 ≤ s) ∧ (∀ j : Nat, s ≤ j → j < xs.length - 1 → xs.getD j 0 ≤ xs.getD (j + 1) 0)) (fun s => (s + 1).toNat) ((xs.length : Int) - 1) [(0, _)] ⟨rfl, trivial⟩ ⟨rfl, trivial⟩ tk ⟨(by (try dsimp only); omega), (by (try dsimp only); omega), fun j h1 h2 => by (try dsimp only at h1); omega⟩ ?_
  rintro i ⟨hi, h1, hs⟩
  try dsimp only [List.cons_append, List.nil_append, List.append_nil] at hi h1 hs ⊢
  refine s_seq ?_
  refine s_seq ?_
  refine s_region ?_
  refine s_q (y_move rfl) rfl ?_
  refine s_q (y_gtr rfl rfl) rfl ?_
  refine s_done ?_
  refine s_cond rfl (fun h => ?_) (fun h => ?_)
  · refine s_skip ?_
    refine s_seq ?_
    refine s_block ?_
    refine s_seq ?_
    refine d_start ?_
    refine d_take 0 rfl (by kernel_rfl) (by exact y_move rfl) rfl ?_
    refine d_take 1 rfl (by kernel_rfl) (by exact y_move rfl) rfl ?_
    refine d_take 2 rfl (by kernel_rfl) (by (first | exact y_ixI rfl rfl rfl rfl rfl hk rfl (by omega) (by omega) | exact y_ixI rfl rfl rfl rfl rfl (by assumption) rfl (by omega) (by omega))) rfl ?_
    refine d_take 3 rfl (by kernel_rfl) (by (first | exact y_ldI rfl rfl rfl rfl hk (by omega) (by omega) | exact y_ld rfl rfl rfl (by rfl) | exact y_ldN rfl rfl rfl (by rfl) | exact y_ldK rfl rfl rfl rfl (by assumption) (by omega) | exact y_ldI rfl rfl rfl rfl (by assumption) (by omega) (by omega))) rfl ?_
    refine d_take 4 rfl (by kernel_rfl) (by exact y_move rfl) rfl ?_
    refine d_take 5 rfl (by kernel_rfl) (by exact y_move rfl) rfl ?_
    refine d_take 6 rfl (by kernel_rfl) (by exact y_sub rfl rfl (by omega)) rfl ?_
    refine d_take 7 rfl (by kernel_rfl) (by (first | exact y_ixI rfl rfl rfl rfl rfl hk rfl (by omega) (by omega) | exact y_ixI rfl rfl rfl rfl rfl (by assumption) rfl (by omega) (by omega))) rfl ?_
    refine d_take 8 rfl (by kernel_rfl) (by (first | exact y_ldI rfl rfl rfl rfl hk (by omega) (by omega) | exact y_ld rfl rfl rfl (by rfl) | exact y_ldN rfl rfl rfl (by rfl) | exact y_ldK rfl rfl rfl rfl (by assumption) (by omega) | exact y_ldI rfl rfl rfl rfl (by assumption) (by omega) (by omega))) rfl ?_
    refine d_effM 9 [8, 7, 6, 5, 4, 3, 2, 1, 0] [false, true, true, true, true, false, true, true, true] rfl (by kernel_rfl) rfl (by kernel_rfl) (fun K hK => ?_)
    refine s_call (pre := []) (rem := _) rfl rfl tk (fun w N ho hl => Less_spec w N _ _ ho) rfl ?_
    rintro e L' ⟨rfl, rfl⟩
    try simp only [List.nil_append, List.cons_append, List.append_nil]
    refine s_done ?_
    refine hK _ _ (by refine rm_skip ?_; refine rm_yd rfl (by (first | exact y_ixI rfl rfl rfl rfl rfl hk rfl (by omega) (by omega) | exact y_ixI rfl rfl rfl rfl rfl (by assumption) rfl (by omega) (by omega))) ?_; refine rm_yd rfl (by exact y_sub rfl rfl (by omega)) ?_; refine rm_yd rfl (by exact y_move rfl) ?_; refine rm_yd rfl (by exact y_move rfl) ?_; refine rm_skip ?_; refine rm_yd rfl (by (first | exact y_ixI rfl rfl rfl rfl rfl hk rfl (by omega) (by omega) | exact y_ixI rfl rfl rfl rfl rfl (by assumption) rfl (by omega) (by omega))) ?_; refine rm_yd rfl (by exact y_move rfl) ?_; refine rm_yd rfl (by exact y_move rfl) ?_; exact rm_nil) ?_
    clear hK K
    refine d_done (by kernel_rfl) ?_
    refine s_cond rfl (fun h2 => ?_) (fun h2 => ?_)
    · have hsf : sortedB xs = false := decide_eq_false (fun x => by
        have := x (i - 1).toNat (by omega)
        rw [show (i - 1).toNat + 1 = i.toNat by omega] at this
        omega)
      refine s_seq ?_
      refine s_region ?_
      refine s_q (y_assign rfl) rfl ?_
      refine s_done ?_
      exact s_return ⟨by rw [hsf], rfl⟩ (res_tmp Try.results54 rfl)
    · refine s_skip ?_
      refine s_endb ?_
      refine s_region ?_
      refine s_q (y_move rfl) rfl ?_
      refine s_q (y_sub rfl rfl (by omega)) rfl ?_
      refine s_q (y_assign rfl) rfl ?_
      refine s_done ?_
      refine s_inv (i - 1) ⟨(by (try dsimp only); omega), (by (try dsimp only); omega), fun j a1 a2 => ?_⟩ (by (try dsimp only); omega) ⟨rfl, rfl, trivial⟩ tk
      try dsimp only at a1
      by_cases e : (j : Int) = i - 1
      · rw [show (i - 1).toNat = j by omega, show i.toNat = j + 1 by omega] at h2
        omega
      · exact hs j (by omega) a2
  · refine s_exit rfl ?_
    refine s_seq ?_
    refine s_region ?_
    refine s_q (y_assign rfl) rfl ?_
    refine s_done ?_
    exact s_return ⟨by rw [show sortedB xs = true from decide_eq_true (fun j hj => hs j (by omega) hj)], rfl⟩ (res_tmp Try.results54 rfl)
theorem setOK_take {r : Int} {l : List Int} (k : Nat) (h : setOK r l = true) : setOK r (l.take k) = true := by
  simp only [setOK, Bool.and_eq_true, List.all_eq_true, decide_eq_true_eq] at h ⊢
  exact ⟨fun x hx => h.1 x (List.mem_of_mem_take hx), h.2.sublist (List.take_sublist _ _)⟩
theorem setOK_snoc {r x : Int} {l : List Int} : setOK r (l ++ [x]) = true ↔ setOK r l = true ∧ 0 ≤ x ∧ x < r ∧ x ∉ l := by
  simp only [setOK, Bool.and_eq_true, List.all_eq_true, decide_eq_true_eq, List.mem_append, List.mem_singleton, List.nodup_append]
  constructor
  · rintro ⟨h1, h2, -, h3⟩
    exact ⟨⟨fun y hy => h1 y (.inl hy), h2⟩, (h1 x (.inr rfl)).1, (h1 x (.inr rfl)).2, fun hx => h3 x hx x rfl rfl⟩
  · rintro ⟨⟨h1, h2⟩, h3, h4, h5⟩
    refine ⟨fun y hy => ?_, h2, by simp, fun a ha b hb => ?_⟩
    · rcases hy with hy | rfl
      · exact h1 y hy
      · exact ⟨h3, h4⟩
    · rintro rfl; subst hb; exact h5 ha
theorem takeS {xs : List Int} {k : Nat} (h : k < xs.length) : xs.take (k + 1) = xs.take k ++ [xs.getD k 0] := by
  rw [List.take_add_one, List.getElem?_eq_getElem h, List.getD_eq_getElem?_getD, List.getElem?_eq_getElem h]; rfl
def OfPost (regs : Int) (l : List Int) (v : Value) (L : List HP) : Prop := ∃ bs : List Bool, bs.length = 64 ∧ (setOK regs l = true → ∀ j : Nat, j < 64 → bs.getD j false = decide ((j : Int) ∈ l)) ∧ v = .tuple #[.agg (bools bs).toArray, .bool (setOK regs l)] ∧ L = []
theorem of_spec (w : World) (N : Nat → Prop) (A : Option Addr) (c : Nat) (regs : Int) (l : List Int) (ho : Owns w [] N) (hk : KI w N A l) (hlen : l.length < 1000000000) (hr : regs ≤ 64) :
    Ret Try.prog 55 [.int .i64 regs, .slice A l.length c] w N (OfPost regs l) := by
  refine ret_of_J cx Try.func55 rfl (Nat.le_of_ble_eq_true rfl) ho ?_
  refine s_seq ?_
  refine s_region ?_
  refine s_alloc rfl rfl (fun b => ?_)
  change J _ _ _ (cb b 85 (bools (List.replicate 64 false)) :: _) _
  refine s_q (y_assign rfl) rfl ?_
  refine s_done ?_
  refine s_seq ?_
  refine s_seq ?_
  refine s_region ?_
  refine s_q (y_move rfl) rfl ?_
  refine s_q (y_lenS rfl rfl rfl) rfl ?_
  refine s_q (y_move rfl) rfl ?_
  refine s_done ?_
  refine s_block ?_
  refine s_loopV (σ := Nat × List Bool) (fun s => [(10, .int .i64 s.1)]) (fun s => [cb b 85 (bools s.2)]) (fun s => (s.1 ≤ l.length) ∧ (s.2.length = 64) ∧ (setOK regs (l.take s.1) = true) ∧ (∀ j : Nat, j < 64 → s.2.getD j false = decide ((j : Int) ∈ l.take s.1))) (fun s => l.length - s.1) (0, List.replicate 64 false) [(0, _), (4, _), (8, _), (9, _)] ⟨rfl, rfl, rfl, rfl, trivial⟩ ⟨rfl, trivial⟩ tk ⟨Nat.zero_le _, by simp, by simp [setOK], fun j hj => by rw [List.getD_eq_getElem?_getD, List.getElem?_replicate, if_pos hj]; simp⟩ ?_
  rintro ⟨i, bs⟩ ⟨hi, hb, hs, hj⟩
  try dsimp only [List.cons_append, List.nil_append, List.append_nil] at hi hb hs hj ⊢
  refine s_seq ?_
  refine s_region ?_
  refine s_q (y_lss rfl rfl) rfl ?_
  refine s_done ?_
  refine s_seq ?_
  refine s_cond rfl (fun h => ?_) (fun h => ?_)
  · have hil : i < l.length := by omega
    have hts := takeS hil
    have bad : ¬ (0 ≤ l.getD i 0 ∧ l.getD i 0 < regs ∧ l.getD i 0 ∉ l.take i) → setOK regs l = false := fun x => by
      rw [Bool.eq_false_iff]
      intro y
      have := setOK_take (i + 1) y
      rw [hts] at this
      exact x (setOK_snoc.1 this).2
    refine s_skip ?_
    refine s_seq ?_
    refine s_block ?_
    refine s_seq ?_
    refine s_region ?_
    refine s_q (by (first | exact y_ixI rfl rfl rfl rfl rfl hk rfl (by omega) (by omega) | exact y_ixI rfl rfl rfl rfl rfl (by assumption) rfl (by omega) (by omega))) rfl ?_
    refine s_q (by (first | exact y_ldK rfl rfl rfl rfl hk (by omega) | exact y_ld rfl rfl rfl (by rfl) | exact y_ldN rfl rfl rfl (by rfl) | exact y_ldK rfl rfl rfl rfl (by assumption) (by omega) | exact y_ldI rfl rfl rfl rfl (by assumption) (by omega) (by omega))) rfl ?_
    refine s_q (y_assign rfl) rfl ?_
    refine s_done ?_
    refine s_seq ?_
    refine s_seq ?_
    by_cases e1 : l.getD i 0 < 0
    · have hbad := bad (fun x => by omega)
      refine s_region ?_
      refine s_q (y_move rfl) rfl ?_
      refine s_q (by (first | exact y_as (y_lss rfl rfl) (congrArg Value.bool (decide_eq_true e1)) | exact y_lss rfl rfl)) rfl ?_
      refine s_q (y_move rfl) rfl ?_
      refine s_unguard2 (b := true) rfl rfl (by with_reducible rfl) rfl rfl ?_
      refine s_unguard2 (b := true) rfl rfl (by with_reducible rfl) rfl rfl ?_
      refine s_unguard2 (b := true) rfl rfl (by with_reducible rfl) rfl rfl ?_
      refine s_q (by (first | exact y_pickT rfl rfl | exact y_pickF rfl rfl)) rfl ?_
      refine s_q (y_move rfl) rfl ?_
      refine s_unguard2 (b := true) rfl rfl (by with_reducible rfl) rfl rfl ?_
      refine s_unguard2 (b := true) rfl rfl (by with_reducible rfl) rfl rfl ?_
      refine s_unguard2 (b := true) rfl rfl (by with_reducible rfl) rfl rfl ?_
      refine s_q (by (first | exact y_pickT rfl rfl | exact y_pickF rfl rfl)) rfl ?_
      refine s_done ?_
      refine s_condT2 rfl (by with_reducible rfl) ?_
      refine s_seq ?_
      refine s_region ?_
      refine s_q (by (first | exact y_ldW rfl rfl rfl (by rw [bools_length, hb]) | exact y_ld rfl rfl rfl (by rfl) | exact y_ldN rfl rfl rfl (by rfl) | exact y_ldK rfl rfl rfl rfl (by assumption) (by omega) | exact y_ldI rfl rfl rfl rfl (by assumption) (by omega) (by omega))) rfl ?_
      refine s_storeW rfl rfl rfl (by rw [bools_length, hb]) (bools_one _) (by rw [bools_length, hb]) ?_
      refine s_q (y_assign rfl) rfl ?_
      refine s_done ?_
      exact s_return (R := OfPost regs l) (v := .tuple #[.agg (bools bs).toArray, .bool false]) (L' := []) ⟨bs, hb, (fun x => by rw [hbad] at x; cases x), by rw [hbad], rfl⟩ (res_cellN2 Try.results55 rfl rfl rfl rfl (by rw [bools_length, hb]))
    by_cases e2 : regs ≤ l.getD i 0
    · have hbad := bad (fun x => by omega)
      refine s_region ?_
      refine s_q (y_move rfl) rfl ?_
      refine s_q (by (first | exact y_as (y_lss rfl rfl) (congrArg Value.bool (decide_eq_false e1)) | exact y_lss rfl rfl)) rfl ?_
      refine s_q (y_move rfl) rfl ?_
      refine s_guard2 rfl rfl (by with_reducible rfl) ?_
      refine s_q (y_move rfl) rfl ?_
      refine s_guard2 rfl rfl (by with_reducible rfl) ?_
      refine s_q (y_move rfl) rfl ?_
      refine s_guard2 rfl rfl (by with_reducible rfl) ?_
      refine s_q (by (first | exact y_as (y_geq rfl rfl) (congrArg Value.bool (decide_eq_true e2)) | exact y_geq rfl rfl)) rfl ?_
      refine s_q (by (first | exact y_pickT rfl rfl | exact y_pickF rfl rfl)) rfl ?_
      refine s_q (y_move rfl) rfl ?_
      refine s_unguard2 (b := true) rfl rfl (by with_reducible rfl) rfl rfl ?_
      refine s_unguard2 (b := true) rfl rfl (by with_reducible rfl) rfl rfl ?_
      refine s_unguard2 (b := true) rfl rfl (by with_reducible rfl) rfl rfl ?_
      refine s_q (by (first | exact y_pickT rfl rfl | exact y_pickF rfl rfl)) rfl ?_
      refine s_done ?_
      refine s_condT2 rfl (by with_reducible rfl) ?_
      refine s_seq ?_
      refine s_region ?_
      refine s_q (by (first | exact y_ldW rfl rfl rfl (by rw [bools_length, hb]) | exact y_ld rfl rfl rfl (by rfl) | exact y_ldN rfl rfl rfl (by rfl) | exact y_ldK rfl rfl rfl rfl (by assumption) (by omega) | exact y_ldI rfl rfl rfl rfl (by assumption) (by omega) (by omega))) rfl ?_
      refine s_storeW rfl rfl rfl (by rw [bools_length, hb]) (bools_one _) (by rw [bools_length, hb]) ?_
      refine s_q (y_assign rfl) rfl ?_
      refine s_done ?_
      exact s_return (R := OfPost regs l) (v := .tuple #[.agg (bools bs).toArray, .bool false]) (L' := []) ⟨bs, hb, (fun x => by rw [hbad] at x; cases x), by rw [hbad], rfl⟩ (res_cellN2 Try.results55 rfl rfl rfl rfl (by rw [bools_length, hb]))
    have hq : (l.getD i 0).toNat < 64 := by omega
    have hbj := hj _ hq
    rw [show (((l.getD i 0).toNat : Nat) : Int) = l.getD i 0 by omega] at hbj
    have hget := bools_get (bs := bs) (i := (l.getD i 0).toNat) (by omega)
    by_cases e3 : l.getD i 0 ∈ l.take i
    · have hbad := bad (fun x => x.2.2 e3)
      rw [hbj, decide_eq_true e3] at hget
      refine s_region ?_
      refine s_q (y_move rfl) rfl ?_
      refine s_q (by (first | exact y_as (y_lss rfl rfl) (congrArg Value.bool (decide_eq_false e1)) | exact y_lss rfl rfl)) rfl ?_
      refine s_q (y_move rfl) rfl ?_
      refine s_guard2 rfl rfl (by with_reducible rfl) ?_
      refine s_q (y_move rfl) rfl ?_
      refine s_guard2 rfl rfl (by with_reducible rfl) ?_
      refine s_q (y_move rfl) rfl ?_
      refine s_guard2 rfl rfl (by with_reducible rfl) ?_
      refine s_q (by (first | exact y_as (y_geq rfl rfl) (congrArg Value.bool (decide_eq_false e2)) | exact y_geq rfl rfl)) rfl ?_
      refine s_q (by (first | exact y_pickT rfl rfl | exact y_pickF rfl rfl)) rfl ?_
      refine s_q (y_move rfl) rfl ?_
      refine s_guard2 rfl rfl (by with_reducible rfl) ?_
      refine s_q (y_move rfl) rfl ?_
      refine s_guard2 rfl rfl (by with_reducible rfl) ?_
      refine s_q (by (first | exact y_indexAddrA rfl rfl rfl rfl rfl (by omega) (by omega) | exact y_ixI rfl rfl rfl rfl rfl (by assumption) rfl (by omega) (by omega))) rfl ?_
      refine s_guard2 rfl rfl (by with_reducible rfl) ?_
      refine s_q (by (first | exact y_ldA rfl rfl rfl rfl hget | exact y_ldW rfl rfl rfl (by rw [bools_length, hb]) | exact y_ld rfl rfl rfl (by rfl) | exact y_ldN rfl rfl rfl (by rfl) | exact y_ldK rfl rfl rfl rfl (by assumption) (by omega) | exact y_ldI rfl rfl rfl rfl (by assumption) (by omega) (by omega))) rfl ?_
      refine s_q (by (first | exact y_pickT rfl rfl | exact y_pickF rfl rfl)) rfl ?_
      refine s_done ?_
      refine s_condT2 rfl (by with_reducible rfl) ?_
      refine s_seq ?_
      refine s_region ?_
      refine s_q (by (first | exact y_ldA rfl rfl rfl rfl hget | exact y_ldW rfl rfl rfl (by rw [bools_length, hb]) | exact y_ld rfl rfl rfl (by rfl) | exact y_ldN rfl rfl rfl (by rfl) | exact y_ldK rfl rfl rfl rfl (by assumption) (by omega) | exact y_ldI rfl rfl rfl rfl (by assumption) (by omega) (by omega))) rfl ?_
      refine s_storeW rfl rfl rfl (by rw [bools_length, hb]) (bools_one _) (by rw [bools_length, hb]) ?_
      refine s_q (y_assign rfl) rfl ?_
      refine s_done ?_
      exact s_return (R := OfPost regs l) (v := .tuple #[.agg (bools bs).toArray, .bool false]) (L' := []) ⟨bs, hb, (fun x => by rw [hbad] at x; cases x), by rw [hbad], rfl⟩ (res_cellN2 Try.results55 rfl rfl rfl rfl (by rw [bools_length, hb]))
    rw [hbj, decide_eq_false e3] at hget
    refine s_region ?_
    refine s_q (y_move rfl) rfl ?_
    refine s_q (by (first | exact y_as (y_lss rfl rfl) (congrArg Value.bool (decide_eq_false e1)) | exact y_lss rfl rfl)) rfl ?_
    refine s_q (y_move rfl) rfl ?_
    refine s_guard2 rfl rfl (by with_reducible rfl) ?_
    refine s_q (y_move rfl) rfl ?_
    refine s_guard2 rfl rfl (by with_reducible rfl) ?_
    refine s_q (y_move rfl) rfl ?_
    refine s_guard2 rfl rfl (by with_reducible rfl) ?_
    refine s_q (by (first | exact y_as (y_geq rfl rfl) (congrArg Value.bool (decide_eq_false e2)) | exact y_geq rfl rfl)) rfl ?_
    refine s_q (by (first | exact y_pickT rfl rfl | exact y_pickF rfl rfl)) rfl ?_
    refine s_q (y_move rfl) rfl ?_
    refine s_guard2 rfl rfl (by with_reducible rfl) ?_
    refine s_q (y_move rfl) rfl ?_
    refine s_guard2 rfl rfl (by with_reducible rfl) ?_
    refine s_q (by (first | exact y_indexAddrA rfl rfl rfl rfl rfl (by omega) (by omega) | exact y_ixI rfl rfl rfl rfl rfl (by assumption) rfl (by omega) (by omega))) rfl ?_
    refine s_guard2 rfl rfl (by with_reducible rfl) ?_
    refine s_q (by (first | exact y_ldA rfl rfl rfl rfl hget | exact y_ld rfl rfl rfl (by rfl) | exact y_ldN rfl rfl rfl (by rfl) | exact y_ldK rfl rfl rfl rfl (by assumption) (by omega) | exact y_ldI rfl rfl rfl rfl (by assumption) (by omega) (by omega))) rfl ?_
    refine s_q (by (first | exact y_pickT rfl rfl | exact y_pickF rfl rfl)) rfl ?_
    refine s_done ?_
    refine s_condF2 rfl (by with_reducible rfl) ?_
    refine s_skip ?_
    refine s_region ?_
    refine s_q (y_move rfl) rfl ?_
    refine s_q (by (first | exact y_indexAddrA rfl rfl rfl rfl rfl (by omega) (by omega) | exact y_ixI rfl rfl rfl rfl rfl (by assumption) rfl (by omega) (by omega))) rfl ?_
    refine s_storeA (q := l.getD i 0) rfl rfl rfl rfl rfl (by omega) (by rw [bools_length]; omega) ?_
    rw [bools_set]
    refine s_done ?_
    refine s_endb ?_
    refine s_region ?_
    refine s_q (y_add rfl rfl (by omega)) rfl ?_
    refine s_q (y_move rfl) rfl ?_
    refine s_done ?_
    refine s_inv (i + 1, bs.set (l.getD i 0).toNat true) ⟨(by (try dsimp only); omega), by simp [hb], by dsimp only; rw [hts]; exact setOK_snoc.2 ⟨hs, by omega, by omega, e3⟩, fun j hj2 => ?_⟩ (by (try dsimp only); omega) ⟨rfl, rfl, rfl, rfl, rfl, trivial⟩ tk
    dsimp only
    rw [hts, List.getD_eq_getElem?_getD, List.getElem?_set]
    by_cases e : (l.getD i 0).toNat = j
    · subst e
      rw [if_pos rfl, if_pos (by omega), show (((l.getD i 0).toNat : Nat) : Int) = l.getD i 0 by omega]; simp
    · rw [if_neg e, ← List.getD_eq_getElem?_getD, hj j hj2]
      have : ¬ (j : Int) = l.getD i 0 := by omega
      simp only [List.mem_append, List.mem_singleton, this, or_false]
  · have hil : i = l.length := by omega
    subst hil
    rw [List.take_length] at hs hj
    refine s_exit rfl ?_
    refine s_seq ?_
    refine s_region ?_
    refine s_q (by (first | exact y_ldW rfl rfl rfl (by rw [bools_length, hb]) | exact y_ld rfl rfl rfl (by rfl) | exact y_ldN rfl rfl rfl (by rfl) | exact y_ldK rfl rfl rfl rfl (by assumption) (by omega) | exact y_ldI rfl rfl rfl rfl (by assumption) (by omega) (by omega))) rfl ?_
    refine s_storeW rfl rfl rfl (by rw [bools_length, hb]) (bools_one _) (by rw [bools_length, hb]) ?_
    refine s_q (y_assign rfl) rfl ?_
    refine s_done ?_
    exact s_return (R := OfPost regs l) (v := .tuple #[.agg (bools bs).toArray, .bool true]) (L' := []) ⟨bs, hb, (fun _ => hj), by rw [hs], rfl⟩ (res_cellN2 Try.results55 rfl rfl rfl rfl (by rw [bools_length, hb]))
end Go.Proofs.Ytgpebcfeeagoaaa
