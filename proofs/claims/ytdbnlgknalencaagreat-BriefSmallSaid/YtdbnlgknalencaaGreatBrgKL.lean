/- The kit of the laws: lists of numbers lent with marks behind their ends, compared, looked at again. -/
import Derived.Test.YtdbnlgknalencaaGreatBrgKS
import Derived.Test.YtdbnlgknalencaaGreatEEb
set_option linter.unusedVariables false
set_option linter.unusedSimpArgs false
namespace Go.Proofs.YtdbnlgknalencaaGreat
open Go Go.E
set_option maxRecDepth 4000
set_option maxHeartbeats 1000000
def marks : List Int := (List.range 12).map fun (i : Nat) => 8000024 + (i : Int)
theorem marks_len : marks.length = 12 := by simp [marks]
theorem marks_getD (i : Nat) (h : i < 12) : marks.getD i 0 = 8000024 + (i : Int) := by
  simp [marks, List.getD_eq_getElem?_getD, h]
theorem mark_spec (w : World) (N : Nat → Prop) (i : Int) (ho : Owns w [] N) (hi : 0 ≤ i ∧ i < 1000000000) : Ret Tryz.prog 27 [.int .i64 1, .int .i64 i] w N fun v L => v = .int .i64 (8000024 + i) ∧ L = [] := by
  refine ret_of_J cx Tryz.func27 rfl (Nat.le_of_ble_eq_true rfl) ho ?_
  refine s_seq ?_
  refine s_region ?_
  refine s_q (y_assign rfl) rfl ?_
  refine s_done ?_
  refine s_seq ?_
  refine s_region ?_
  refine s_q (y_move rfl) rfl ?_
  refine s_q (y_add rfl rfl (by omega)) rfl ?_
  refine s_q (y_mul rfl rfl (by omega)) rfl ?_
  refine s_q (y_move rfl) rfl ?_
  refine s_q (y_add rfl rfl (by omega)) rfl ?_
  refine s_q (y_assign rfl) rfl ?_
  refine s_done ?_
  exact s_return ⟨by congr 1, rfl⟩ (res_tmp Tryz.results27 rfl)
def LentI (xs : List Int) (v : Value) (L : List HP) : Prop := ∃ (A' : Option Addr) (c' : Nat), v = .slice A' xs.length c' ∧ L = [Sl 3 1 A' (xs.length + 12) c' (ints (xs ++ marks))]
theorem LentInts_spec (w : World) (N : Nat → Prop) (A : Option Addr) (c : Nat) (xs : List Int) (ho : Owns w [] N) (hk : KI w N A xs) (hlen : xs.length < 1000000) :
    Ret Tryz.prog 8 [.slice A xs.length c] w N (LentI xs) := by
  refine ret_of_J cx Tryz.func8 rfl (Nat.le_of_ble_eq_true rfl) ho ?_
  refine s_seq ?_
  refine s_region ?_
  refine s_q (y_assign rfl) rfl ?_
  refine s_done ?_
  refine s_seq ?_
  refine s_region ?_
  refine s_q (y_move rfl) rfl ?_
  refine s_q (y_lenS rfl rfl rfl) rfl ?_
  refine s_q (y_add rfl rfl (by omega)) rfl ?_
  refine s_mkslice (l := 0) (c := xs.length + 12) rfl rfl rfl (by omega) rfl rfl rfl rfl rfl rfl rfl (by omega) (by omega) (fun b => ?_)
  refine s_q (y_assign rfl) rfl ?_
  refine s_done ?_
  refine s_seq ?_
  refine s_region ?_
  refine s_q (y_move rfl) rfl ?_
  refine s_q (y_move rfl) rfl ?_
  refine s_appendI rfl rfl hk rfl rfl rfl rfl rfl (by omega) rfl (fun A1 c1 => ?_)
  rw [Nat.zero_add, show zerosOf [Value.int .i64 0] 0 ++ ints xs = ints (xs ++ marks.take 0) by simp [zerosOf]]
  refine s_q (y_assign rfl) rfl ?_
  refine s_done ?_
  refine s_seq ?_
  refine s_seq ?_
  refine s_region ?_
  refine s_q (y_assign rfl) rfl ?_
  refine s_done ?_
  refine s_block ?_
  refine s_loopV (σ := Nat × Option Addr × Nat) (fun s => [(4, .int .i64 s.1), (3, .slice s.2.1 (xs.length + s.1) s.2.2)]) (fun s => [Sl 3 1 s.2.1 (xs.length + s.1) s.2.2 (ints (xs ++ marks.take s.1))]) (fun s => (s.1 ≤ 12)) (fun s => 12 - s.1) (0, A1, c1) [(0, _)] ⟨rfl, trivial⟩ ⟨rfl, rfl, trivial⟩ tk (Nat.zero_le _) ?_
  rintro ⟨i, G, g⟩ hi
  try dsimp only [List.cons_append, List.nil_append, List.append_nil] at hi ⊢
  refine s_seq ?_
  refine s_seq ?_
  refine s_region ?_
  refine s_q (y_move rfl) rfl ?_
  refine s_q (y_lss rfl rfl) rfl ?_
  refine s_done ?_
  refine s_cond rfl (fun h => ?_) (fun h => ?_)
  · refine s_skip ?_
    refine s_seq ?_
    refine s_block ?_
    refine s_region ?_
    refine s_q (y_move rfl) rfl ?_
    refine s_q (y_move rfl) rfl ?_
    refine s_call (pre := []) (rem := _) rfl rfl tk (fun w N ho hl => mark_spec w N i ho (by omega)) rfl ?_
    rintro e L' ⟨rfl, rfl⟩
    try simp only [List.nil_append, List.cons_append, List.append_nil]
    refine s_bslice rfl rfl rfl rfl rfl rfl rfl rfl (fun ba => ?_)
    refine s_append rfl rfl rfl rfl rfl rfl rfl rfl rfl (by omega) rfl (fun A3 c3 => ?_)
    have e1 : ints (xs ++ marks.take i) ++ [Value.int .i64 (8000024 + (i : Int))] = ints (xs ++ marks.take (i + 1)) := by
      have : marks.take (i + 1) = marks.take i ++ [8000024 + (i : Int)] := by
        rw [List.take_succ_eq_append_getElem (by simp [marks]; omega)]; simp [marks]
      rw [this]; simp [ints]
    change J _ _ _ (Sl 3 1 A3 (xs.length + (i + 1)) c3 (ints (xs ++ marks.take i) ++ [Value.int .i64 (8000024 + (i : Int))]) :: _) _
    rw [e1]
    refine s_q (y_assign rfl) rfl ?_
    refine s_done ?_
    refine s_endb ?_
    refine s_region ?_
    refine s_q (y_move rfl) rfl ?_
    refine s_q (y_add rfl rfl (by omega)) rfl ?_
    refine s_q (y_assign rfl) rfl ?_
    refine s_done ?_
    refine s_inv (i + 1, A3, c3) (by (try dsimp only); omega) (by (try dsimp only); omega) ⟨rfl, rfl, rfl, trivial⟩ tk
  · have : i = 12 := by omega
    subst this
    refine J.fact Sl.facts fun hf => ?_
    rw [List.take_of_length_le (by simp [marks])]
    refine s_exit rfl ?_
    refine s_seq ?_
    refine s_region ?_
    refine s_q (y_move rfl) rfl ?_
    refine s_q (y_move rfl) rfl ?_
    refine s_q (y_lenS rfl rfl rfl) rfl ?_
    refine s_q (y_sliceHi rfl rfl rfl (by omega) rfl rfl) rfl ?_
    refine s_q (y_assign rfl) rfl ?_
    refine s_done ?_
    exact s_return (R := LentI xs) ⟨G, g, rfl, rfl⟩ (res_tmp Tryz.results8 rfl)
theorem app_getD_l {α : Type} {d : α} {xs ys : List α} {i : Nat} (h : i < xs.length) : (xs ++ ys).getD i d = xs.getD i d := by
  rw [List.getD_eq_getElem?_getD, List.getElem?_append_left h, ← List.getD_eq_getElem?_getD]
theorem app_getD_r {α : Type} {d : α} {xs ys : List α} {i : Nat} (h : xs.length ≤ i) : (xs ++ ys).getD i d = ys.getD (i - xs.length) d := by
  rw [List.getD_eq_getElem?_getD, List.getElem?_append_right h, ← List.getD_eq_getElem?_getD]
theorem KeptInts_spec (w : World) (N : Nat → Prop) (A B : Option Addr) (c kb n m : Nat) (xs : List Int) (hn : n = xs.length) (hm : m = xs.length) (ho : Owns w [] N) (hk : KI w N A (xs ++ marks)) (hk2 : KI w N B xs) (hc : xs.length + 12 ≤ c) (hlen : xs.length < 1000000) :
    Ret Tryz.prog 15 [.slice A n c, .slice B m kb] w N fun v L => v = .bool true ∧ L = [] := by
  subst hn hm
  have hml : (xs ++ marks).length = xs.length + 12 := by rw [List.length_append, marks_len]
  refine ret_of_J cx Tryz.func15 rfl (Nat.le_of_ble_eq_true rfl) ho ?_
  refine s_seq ?_
  refine s_region ?_
  refine s_q (y_assign rfl) rfl ?_
  refine s_done ?_
  refine s_seq ?_
  refine s_seq ?_
  refine s_region ?_
  refine s_q (y_move rfl) rfl ?_
  refine s_q (y_lenS rfl rfl rfl) rfl ?_
  refine s_q (y_move rfl) rfl ?_
  refine s_q (y_lenS rfl rfl rfl) rfl ?_
  refine s_q (by (first | exact y_as (y_neq rfl rfl) (congrArg Value.bool (decide_eq_false (fun h => h rfl))) | exact y_neq rfl rfl | exact y_neqB rfl rfl rfl)) rfl ?_
  refine s_done ?_
  refine s_condF2 rfl (by with_reducible rfl) ?_
  refine s_skip ?_
  refine s_seq ?_
  refine s_region ?_
  refine s_q (y_move rfl) rfl ?_
  refine s_q (y_move rfl) rfl ?_
  refine s_q (y_lenS rfl rfl rfl) rfl ?_
  refine s_q (y_add rfl rfl (by omega)) rfl ?_
  refine s_q (by (first | exact y_sliceHi (m := xs.length + 12) rfl rfl (by omega) (by omega) rfl rfl | exact y_sliceHi rfl rfl rfl (by omega) rfl rfl)) rfl ?_
  refine s_q (y_assign rfl) rfl ?_
  refine s_done ?_
  refine s_seq ?_
  refine s_seq ?_
  refine s_region ?_
  refine s_q (y_assign rfl) rfl ?_
  refine s_done ?_
  refine s_block ?_
  refine s_loopV (σ := Nat) (fun s => [(6, .int .i64 s)]) (fun s => []) (fun s => (s ≤ xs.length + 12)) (fun s => xs.length + 12 - s) (0) [(1, _), (5, _)] ⟨rfl, rfl, trivial⟩ ⟨rfl, trivial⟩ tk (Nat.zero_le _) ?_
  rintro i hi
  try dsimp only [List.cons_append, List.nil_append, List.append_nil] at hi ⊢
  refine s_seq ?_
  refine s_seq ?_
  refine s_region ?_
  refine s_q (y_move rfl) rfl ?_
  refine s_q (y_move rfl) rfl ?_
  refine s_q (y_lenS rfl rfl rfl) rfl ?_
  refine s_q (y_lss rfl rfl) rfl ?_
  refine s_done ?_
  refine s_cond rfl (fun h => ?_) (fun h => ?_)
  · refine s_skip ?_
    refine s_seq ?_
    refine s_block ?_
    refine s_seq ?_
    refine s_joinV (σ := Unit) (fun s => [(57, .bool false)]) [] (fun s => []) (fun s => True) [(1, _), (5, _), (6, _)] ⟨rfl, rfl, rfl, trivial⟩ tk (fun k' hr => ?_) ?_
    · by_cases hlt : (i : Int) < (xs.length : Int)
      · have hge : ¬ (i : Int) ≥ (xs.length : Int) := by omega
        have he : (xs ++ marks).getD i 0 = xs.getD i 0 := app_getD_l (by omega)
        refine d_start ?_
        refine d_take 0 rfl (by kernel_rfl) (by exact y_move rfl) rfl ?_
        refine d_take 1 rfl (by kernel_rfl) (by exact y_move rfl) rfl ?_
        refine d_take 2 rfl (by kernel_rfl) (by exact y_lenS rfl rfl rfl) rfl ?_
        refine d_take 3 rfl (by kernel_rfl) (by (first | exact y_as (y_lss rfl rfl) (congrArg Value.bool (decide_eq_true hlt)) | exact y_lss rfl rfl)) rfl ?_
        refine d_take 4 rfl (by kernel_rfl) (by exact y_move rfl) rfl ?_
        refine d_takeG 5 rfl (by kernel_rfl) rfl rfl (by exact y_move rfl) rfl ?_
        refine d_takeG 6 rfl (by kernel_rfl) rfl rfl (by exact y_move rfl) rfl ?_
        refine d_takeG 7 rfl (by kernel_rfl) rfl rfl (by (first | exact y_ixI rfl rfl rfl rfl rfl hk hml.symm (by omega) (by omega) | exact y_ixI rfl rfl rfl rfl rfl hk2 rfl (by omega) (by omega) | exact y_ixI rfl rfl rfl rfl rfl (by assumption) rfl (by omega) (by omega))) rfl ?_
        refine d_takeG 8 rfl (by kernel_rfl) rfl rfl (by (first | exact y_ldI rfl rfl rfl rfl hk (by omega) (by omega) | exact y_ldI rfl rfl rfl rfl hk2 (by omega) (by omega) | exact y_ld rfl rfl rfl (by rfl) | exact y_ldN rfl rfl rfl (by rfl) | exact y_ldK rfl rfl rfl rfl (by assumption) (by omega) | exact y_ldI rfl rfl rfl rfl (by assumption) (by omega) (by omega))) rfl ?_
        refine d_takeG 9 rfl (by kernel_rfl) rfl rfl (by exact y_move rfl) rfl ?_
        refine d_takeG 10 rfl (by kernel_rfl) rfl rfl (by exact y_move rfl) rfl ?_
        refine d_takeG 11 rfl (by kernel_rfl) rfl rfl (by (first | exact y_ixI rfl rfl rfl rfl rfl hk hml.symm (by omega) (by omega) | exact y_ixI rfl rfl rfl rfl rfl hk2 rfl (by omega) (by omega) | exact y_ixI rfl rfl rfl rfl rfl (by assumption) rfl (by omega) (by omega))) rfl ?_
        refine d_takeG 12 rfl (by kernel_rfl) rfl rfl (by (first | exact y_ldI rfl rfl rfl rfl hk (by omega) (by omega) | exact y_ldI rfl rfl rfl rfl hk2 (by omega) (by omega) | exact y_ld rfl rfl rfl (by rfl) | exact y_ldN rfl rfl rfl (by rfl) | exact y_ldK rfl rfl rfl rfl (by assumption) (by omega) | exact y_ldI rfl rfl rfl rfl (by assumption) (by omega) (by omega))) rfl ?_
        refine d_takeG 13 rfl (by kernel_rfl) rfl rfl (by (first | exact y_as (y_eql rfl rfl) (congrArg Value.bool (decide_eq_true he)) | exact y_eql rfl rfl | exact y_eqlB rfl rfl rfl)) rfl ?_
        refine d_takeG 14 rfl (by kernel_rfl) rfl rfl (by (first | exact y_notT rfl | exact y_notF rfl | exact y_notp rfl | exact y_notb rfl)) rfl ?_
        refine d_take 15 rfl (by kernel_rfl) (by (first | exact y_pickT rfl rfl | exact y_pickF rfl rfl)) rfl ?_
        refine d_take 16 rfl (by kernel_rfl) (by exact y_move rfl) rfl ?_
        refine d_takeG 17 rfl (by kernel_rfl) rfl rfl (by exact y_move rfl) rfl ?_
        refine d_takeG 18 rfl (by kernel_rfl) rfl rfl (by exact y_move rfl) rfl ?_
        refine d_takeG 19 rfl (by kernel_rfl) rfl rfl (by exact y_lenS rfl rfl rfl) rfl ?_
        refine d_takeG 20 rfl (by kernel_rfl) rfl rfl (by (first | exact y_as (y_geq rfl rfl) (congrArg Value.bool (decide_eq_false hge)) | exact y_geq rfl rfl)) rfl ?_
        refine d_takeG 21 rfl (by kernel_rfl) rfl rfl (by exact y_move rfl) rfl ?_
        refine d_skip 22 rfl (by kernel_rfl) (fun c e => by cases e) rfl rfl rfl rfl ?_
        refine d_skip 23 rfl (by kernel_rfl) (fun c e => by cases e) rfl rfl rfl rfl ?_
        refine d_skip 24 rfl (by kernel_rfl) (fun c e => by cases e) rfl rfl rfl rfl ?_
        refine d_skip 25 rfl (by kernel_rfl) (fun c e => by cases e) rfl rfl rfl rfl ?_
        refine d_skip 26 rfl (by kernel_rfl) (fun c e => by cases e) rfl rfl rfl rfl ?_
        refine d_skip 27 rfl (by kernel_rfl) (fun c e => by cases e) rfl rfl rfl rfl ?_
        refine d_skip 28 rfl (by kernel_rfl) (fun c e => by cases e) rfl rfl rfl rfl ?_
        refine d_skip 29 rfl (by kernel_rfl) (fun c e => by cases e) rfl rfl rfl rfl ?_
        refine d_skip 30 rfl (by kernel_rfl) (fun c e => by cases e) rfl rfl rfl rfl ?_
        refine d_skip 31 rfl (by kernel_rfl) (fun c e => by cases e) rfl rfl rfl rfl ?_
        refine d_skip 32 rfl (by kernel_rfl) (fun c e => by cases e) rfl rfl rfl rfl ?_
        refine d_takeG 33 rfl (by kernel_rfl) rfl rfl (by (first | exact y_pickT rfl rfl | exact y_pickF rfl rfl)) rfl ?_
        refine d_take 34 rfl (by kernel_rfl) (by (first | exact y_pickT rfl rfl | exact y_pickF rfl rfl)) rfl ?_
        refine d_done (by kernel_rfl) ?_
        have hr' := hr () trivial
        try dsimp only [List.cons_append, List.nil_append, List.append_nil] at hr'
        exact J.to hr' ⟨rfl, rfl, rfl, rfl, trivial⟩ tk
      · have hge : (i : Int) ≥ (xs.length : Int) := by omega
        have he : (xs ++ marks).getD i 0 = 8000024 + ((i : Int) - (xs.length : Int)) := by
          rw [app_getD_r (by omega), marks_getD _ (by omega)]; omega
        refine d_start ?_
        refine d_take 0 rfl (by kernel_rfl) (by exact y_move rfl) rfl ?_
        refine d_take 1 rfl (by kernel_rfl) (by exact y_move rfl) rfl ?_
        refine d_take 2 rfl (by kernel_rfl) (by exact y_lenS rfl rfl rfl) rfl ?_
        refine d_take 3 rfl (by kernel_rfl) (by (first | exact y_as (y_lss rfl rfl) (congrArg Value.bool (decide_eq_false hlt)) | exact y_lss rfl rfl)) rfl ?_
        refine d_take 4 rfl (by kernel_rfl) (by exact y_move rfl) rfl ?_
        refine d_skip 5 rfl (by kernel_rfl) (fun c e => by cases e) rfl rfl rfl rfl ?_
        refine d_skip 6 rfl (by kernel_rfl) (fun c e => by cases e) rfl rfl rfl rfl ?_
        refine d_skip 7 rfl (by kernel_rfl) (fun c e => by cases e) rfl rfl rfl rfl ?_
        refine d_skip 8 rfl (by kernel_rfl) (fun c e => by cases e) rfl rfl rfl rfl ?_
        refine d_skip 9 rfl (by kernel_rfl) (fun c e => by cases e) rfl rfl rfl rfl ?_
        refine d_skip 10 rfl (by kernel_rfl) (fun c e => by cases e) rfl rfl rfl rfl ?_
        refine d_skip 11 rfl (by kernel_rfl) (fun c e => by cases e) rfl rfl rfl rfl ?_
        refine d_skip 12 rfl (by kernel_rfl) (fun c e => by cases e) rfl rfl rfl rfl ?_
        refine d_skip 13 rfl (by kernel_rfl) (fun c e => by cases e) rfl rfl rfl rfl ?_
        refine d_skip 14 rfl (by kernel_rfl) (fun c e => by cases e) rfl rfl rfl rfl ?_
        refine d_take 15 rfl (by kernel_rfl) (by (first | exact y_pickT rfl rfl | exact y_pickF rfl rfl)) rfl ?_
        refine d_take 16 rfl (by kernel_rfl) (by exact y_move rfl) rfl ?_
        refine d_takeG 17 rfl (by kernel_rfl) rfl rfl (by exact y_move rfl) rfl ?_
        refine d_takeG 18 rfl (by kernel_rfl) rfl rfl (by exact y_move rfl) rfl ?_
        refine d_takeG 19 rfl (by kernel_rfl) rfl rfl (by exact y_lenS rfl rfl rfl) rfl ?_
        refine d_takeG 20 rfl (by kernel_rfl) rfl rfl (by (first | exact y_as (y_geq rfl rfl) (congrArg Value.bool (decide_eq_true hge)) | exact y_geq rfl rfl)) rfl ?_
        refine d_takeG 21 rfl (by kernel_rfl) rfl rfl (by exact y_move rfl) rfl ?_
        refine d_takeG 22 rfl (by kernel_rfl) rfl rfl (by exact y_move rfl) rfl ?_
        refine d_takeG 23 rfl (by kernel_rfl) rfl rfl (by exact y_move rfl) rfl ?_
        refine d_takeG 24 rfl (by kernel_rfl) rfl rfl (by (first | exact y_ixI rfl rfl rfl rfl rfl hk hml.symm (by omega) (by omega) | exact y_ixI rfl rfl rfl rfl rfl (by assumption) rfl (by omega) (by omega))) rfl ?_
        refine d_takeG 25 rfl (by kernel_rfl) rfl rfl (by (first | exact y_ldI rfl rfl rfl rfl hk (by omega) (by omega) | exact y_ld rfl rfl rfl (by rfl) | exact y_ldN rfl rfl rfl (by rfl) | exact y_ldK rfl rfl rfl rfl (by assumption) (by omega) | exact y_ldI rfl rfl rfl rfl (by assumption) (by omega) (by omega))) rfl ?_
        refine d_takeG 26 rfl (by kernel_rfl) rfl rfl (by exact y_move rfl) rfl ?_
        refine d_takeG 27 rfl (by kernel_rfl) rfl rfl (by exact y_move rfl) rfl ?_
        refine d_takeG 28 rfl (by kernel_rfl) rfl rfl (by exact y_lenS rfl rfl rfl) rfl ?_
        refine d_takeG 29 rfl (by kernel_rfl) rfl rfl (by exact y_sub rfl rfl (by omega)) rfl ?_
        refine d_effM 30 [29, 28, 27, 26, 25, 24, 23, 22, 21, 20, 19, 18, 17, 16, 15, 4, 3, 2, 1, 0] [false, true, true, true, true, true, true, true, false, true, true, true, true, true, true, true, true, true, true, true] rfl (by kernel_rfl) rfl (by kernel_rfl) (fun K hK => ?_)
        refine s_guard rfl rfl ?_
        refine s_call (pre := []) (rem := _) rfl rfl tk (fun w N ho hl => mark_spec w N ((i : Int) - (xs.length : Int)) ho (by omega)) rfl ?_
        rintro e L' ⟨rfl, rfl⟩
        try simp only [List.nil_append, List.cons_append, List.append_nil]
        refine s_done ?_
        refine hK _ _ (by refine rm_skip ?_; refine rm_yd rfl (by exact y_lenS rfl rfl rfl) ?_; refine rm_yd rfl (by exact y_move rfl) ?_; refine rm_yd rfl (by exact y_move rfl) ?_; refine rm_yd rfl (by (first | exact y_ldI rfl rfl rfl rfl hk (by omega) (by omega) | exact y_ld rfl rfl rfl (by rfl) | exact y_ldN rfl rfl rfl (by rfl) | exact y_ldK rfl rfl rfl rfl (by assumption) (by omega) | exact y_ldI rfl rfl rfl rfl (by assumption) (by omega) (by omega))) ?_; refine rm_yd rfl (by (first | exact y_ixI rfl rfl rfl rfl rfl hk hml.symm (by omega) (by omega) | exact y_ixI rfl rfl rfl rfl rfl (by assumption) rfl (by omega) (by omega))) ?_; refine rm_yd rfl (by exact y_move rfl) ?_; refine rm_yd rfl (by exact y_move rfl) ?_; refine rm_skip ?_; refine rm_yd rfl (by (first | exact y_as (y_geq rfl rfl) (congrArg Value.bool (decide_eq_true hge)) | exact y_geq rfl rfl)) ?_; refine rm_yd rfl (by exact y_lenS rfl rfl rfl) ?_; refine rm_yd rfl (by exact y_move rfl) ?_; refine rm_yd rfl (by exact y_move rfl) ?_; refine rm_yd rfl (by exact y_move rfl) ?_; refine rm_yd rfl (by (first | exact y_pickT rfl rfl | exact y_pickF rfl rfl)) ?_; refine rm_yd rfl (by exact y_move rfl) ?_; refine rm_yd rfl (by (first | exact y_as (y_lss rfl rfl) (congrArg Value.bool (decide_eq_false hlt)) | exact y_lss rfl rfl)) ?_; refine rm_yd rfl (by exact y_lenS rfl rfl rfl) ?_; refine rm_yd rfl (by exact y_move rfl) ?_; refine rm_yd rfl (by exact y_move rfl) ?_; exact rm_nil) ?_
        clear hK K
        refine d_takeG 31 rfl (by kernel_rfl) rfl rfl (by (first | exact y_as (y_eql rfl rfl) (congrArg Value.bool (decide_eq_true he)) | exact y_eql rfl rfl | exact y_eqlB rfl rfl rfl)) rfl ?_
        refine d_takeG 32 rfl (by kernel_rfl) rfl rfl (by (first | exact y_notT rfl | exact y_notF rfl | exact y_notp rfl | exact y_notb rfl)) rfl ?_
        refine d_takeG 33 rfl (by kernel_rfl) rfl rfl (by (first | exact y_pickT rfl rfl | exact y_pickF rfl rfl)) rfl ?_
        refine d_take 34 rfl (by kernel_rfl) (by (first | exact y_pickT rfl rfl | exact y_pickF rfl rfl)) rfl ?_
        refine d_done (by kernel_rfl) ?_
        have hr' := hr () trivial
        try dsimp only [List.cons_append, List.nil_append, List.append_nil] at hr'
        exact J.to hr' ⟨rfl, rfl, rfl, rfl, trivial⟩ tk
    rintro - -
    dsimp only [List.cons_append, List.nil_append]
    refine s_condF2 rfl (by with_reducible rfl) ?_
    refine s_skip ?_
    refine s_endb ?_
    refine s_region ?_
    refine s_q (y_move rfl) rfl ?_
    refine s_q (y_add rfl rfl (by omega)) rfl ?_
    refine s_q (y_assign rfl) rfl ?_
    refine s_done ?_
    refine s_inv (i + 1) (by (try dsimp only); omega) (by (try dsimp only); omega) ⟨rfl, rfl, rfl, trivial⟩ tk
  · refine s_exit rfl ?_
    refine s_seq ?_
    refine s_region ?_
    refine s_q (y_assign rfl) rfl ?_
    refine s_done ?_
    exact s_return ⟨rfl, rfl⟩ (res_tmp Tryz.results15 rfl)
end Go.Proofs.YtdbnlgknalencaaGreat
