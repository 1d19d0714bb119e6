/- Layer 6 (mir): the contract of frame.term. -/
import Derived.Test.YtgpebcfeeagoaaaMirE
import Derived.Test.YtgpebcfeeagoaaaEEb
set_option linter.unusedVariables false
set_option linter.unusedSimpArgs false
namespace Go.Proofs.Ytgpebcfeeagoaaa
open Go Go.E
set_option maxRecDepth 4000
set_option maxHeartbeats 1000000
theorem term1_spec (w : World) (N : Nat → Prop) (n : Int) (B : HP) (ho : Owns w [B] N) : Ret Try.prog 60 [.int .i64 n] w N fun v L => v = .bool (decide (n ≠ 0)) ∧ L = [B] := by
  refine ret_of_J cx Try.func60 rfl (Nat.le_of_ble_eq_true rfl) ho ?_
  refine s_seq ?_
  refine s_region ?_
  refine s_q (y_assign rfl) rfl ?_
  refine s_done ?_
  refine s_seq ?_
  refine s_region ?_
  refine s_q (y_move rfl) rfl ?_
  refine s_q (by (first | exact y_neq rfl rfl | exact y_neqB rfl rfl rfl)) rfl ?_
  refine s_q (y_assign rfl) rfl ?_
  refine s_done ?_
  exact s_return ⟨rfl, rfl⟩ (res_tmp Try.results60 rfl)
theorem term_spec (w : World) (N : Nat → Prop) (m : MV) (A B : Option Addr) (c d : Nat) (sl bl : Int) (b : BlkD) (ho : Owns w [] N) :
    Ret Try.prog 37 [.agg (frv m A c B d sl bl).toArray, .agg #[.int .i64 b.kind, .int .i64 b.a, .int .i64 b.t0, .int .i64 b.t1]] w N fun v L => v = .int .i64 (termE m.regs m.ret bl b) ∧ L = [] := by
  refine ret_of_J cx Try.func37 rfl (Nat.le_of_ble_eq_true rfl) ho ?_
  refine s_seq ?_
  refine s_region ?_
  first | (refine s_box1 rfl rfl rfl (fun bf => ?_)) | (refine s_boxA rfl rfl (fun bf => ?_))
  first | (refine s_box1 rfl rfl rfl (fun bt => ?_)) | (refine s_boxA rfl rfl (fun bt => ?_))
  change J _ _ _ (cb bt 40 [.int .i64 b.kind, .int .i64 b.a, .int .i64 b.t0, .int .i64 b.t1] :: cb bf 67 (frv m A c B d sl bl) :: _) _
  unfold frv
  refine J.puI (p := True) trivial ?_
  have hT : ∀ w' N' x, Owns w' [Go.E.pu True] N' → Ret Try.prog 60 ([.int .i64 x] ++ []) w' N' fun v L => v = .bool (decide (x ≠ 0)) ∧ L = [Go.E.pu True] := fun w' N' x ho' => term1_spec w' N' x _ ho'
  refine s_q (y_assign rfl) rfl ?_
  refine s_done ?_
  refine s_seq ?_
  refine s_region ?_
  refine s_q (by (first | exact y_fieldAddrB rfl rfl rfl rfl rfl rfl | exact y_fieldAddr rfl rfl rfl rfl rfl rfl)) rfl ?_
  refine s_q (by (first | exact y_ld rfl rfl rfl (by rfl) | exact y_ldN rfl rfl rfl (by rfl) | exact y_ldK rfl rfl rfl rfl (by assumption) (by omega) | exact y_ldI rfl rfl rfl rfl (by assumption) (by omega) (by omega))) rfl ?_
  refine s_q (by (first | exact y_eql rfl rfl | exact y_eqlB rfl rfl rfl)) rfl ?_
  refine s_q (y_assign rfl) rfl ?_
  refine s_done ?_
  refine s_seq ?_
  refine s_region ?_
  refine s_q (by (first | exact y_fieldAddrB rfl rfl rfl rfl rfl rfl | exact y_fieldAddr rfl rfl rfl rfl rfl rfl)) rfl ?_
  refine s_q (by (first | exact y_sliceA (m := 0) rfl rfl rfl (.inr ⟨_, rfl, rfl⟩) rfl | exact y_sliceHi rfl rfl rfl (by omega) rfl rfl)) rfl ?_
  refine s_q (y_assign rfl) rfl ?_
  refine s_done ?_
  refine s_seq ?_
  refine s_seq ?_
  refine s_region ?_
  refine s_q (by (first | exact y_fieldAddrB rfl rfl rfl rfl rfl rfl | exact y_fieldAddr rfl rfl rfl rfl rfl rfl)) rfl ?_
  refine s_q (by (first | exact y_ld rfl rfl rfl (by rfl) | exact y_ldN rfl rfl rfl (by rfl) | exact y_ldK rfl rfl rfl rfl (by assumption) (by omega) | exact y_ldI rfl rfl rfl rfl (by assumption) (by omega) (by omega))) rfl ?_
  refine s_done ?_
  refine s_block ?_
  refine s_seq ?_
  by_cases k1 : b.kind = 1
  · refine s_region ?_
    refine s_q (by (first | exact y_as (y_eql rfl rfl) (congrArg Value.bool (decide_eq_true k1)) | exact y_eql rfl rfl | exact y_eqlB rfl rfl rfl)) rfl ?_
    refine s_q (y_assign rfl) rfl ?_
    refine s_done ?_
    refine s_condT2 rfl (by with_reducible rfl) ?_
    refine s_region ?_
    refine s_q (by (first | exact y_fieldAddrB rfl rfl rfl rfl rfl rfl | exact y_fieldAddr rfl rfl rfl rfl rfl rfl)) rfl ?_
    refine s_q (by (first | exact y_sliceA (m := 1) rfl rfl rfl (.inr ⟨_, rfl, rfl⟩) rfl | exact y_sliceHi rfl rfl rfl (by omega) rfl rfl)) rfl ?_
    refine s_q (y_assign rfl) rfl ?_
    refine s_done ?_
    refine s_endb ?_
    refine s_seq ?_
    refine s_seq ?_
    by_cases ea : b.a = 0
    · rw [decide_eq_true ea]
      refine s_region ?_
      refine s_q (y_move rfl) rfl ?_
      refine s_q (by (first | exact y_notT rfl | exact y_notF rfl | exact y_notp rfl | exact y_notb rfl)) rfl ?_
      refine s_q (y_move rfl) rfl ?_
      refine s_guard2 rfl rfl (by with_reducible rfl) ?_
      refine s_q (by (first | exact y_fieldAddrB rfl rfl rfl rfl rfl rfl | exact y_fieldAddr rfl rfl rfl rfl rfl rfl)) rfl ?_
      refine s_guard2 rfl rfl (by with_reducible rfl) ?_
      refine s_q (y_move rfl) rfl ?_
      refine s_guard2 rfl rfl (by with_reducible rfl) ?_
      refine s_q (y_lenS rfl rfl rfl) rfl ?_
      refine s_guard2 rfl rfl (by with_reducible rfl) ?_
      refine s_q (by (first | exact y_sliceAt (m := 1) rfl rfl rfl rfl rfl | exact y_sliceHi rfl rfl rfl (by omega) rfl rfl)) rfl ?_
      refine s_guard2 rfl rfl (by with_reducible rfl) ?_
      refine s_call (pre := [Go.E.pu True]) (rem := _) rfl rfl tk (fun w N ho hl => ContainsFunc_spec w N (some ⟨bt, 3, none⟩) 1 [b.t1] 60 [] (Go.E.pu True) (fun x => decide (x ≠ 0)) rfl (kiOfCO (o := 3) hl (by repeat (first | exact List.mem_cons_self | refine List.mem_cons_of_mem _ ?_)) rfl) ho (by simp) hT) rfl ?_
      rintro e L' ⟨rfl, rfl⟩
      try simp only [List.nil_append, List.cons_append, List.append_nil]
      by_cases e1 : b.t1 = 0
      · rw [show [b.t1].any (fun x => decide (x ≠ 0)) = false by simp [e1]]
        refine s_q (by (first | exact y_pickT rfl rfl | exact y_pickF rfl rfl)) rfl ?_
        refine s_done ?_
        refine s_condF2 rfl (by with_reducible rfl) ?_
        refine s_skip ?_
        refine s_seq ?_
        refine s_seq ?_
        refine s_region ?_
        refine s_q (by (first | exact y_ld rfl rfl rfl (by rfl) | exact y_ldN rfl rfl rfl (by rfl) | exact y_ldK rfl rfl rfl rfl (by assumption) (by omega) | exact y_ldI rfl rfl rfl rfl (by assumption) (by omega) (by omega))) rfl ?_
        refine s_q (y_move rfl) rfl ?_
        refine s_call (pre := []) (rem := _) rfl rfl tk (fun w N ho hl => to_spec w N m A B (some ⟨bt, 2, none⟩) c d 2 sl bl [b.t0] ho (kiOfCO (o := 2) hl (by repeat (first | exact List.mem_cons_self | refine List.mem_cons_of_mem _ ?_)) rfl) (by simp)) rfl ?_
        rintro e L' ⟨rfl, rfl⟩
        try simp only [List.nil_append, List.cons_append, List.append_nil]
        cases hr : [b.t0].all (inR bl) with
        | false =>
          refine s_q (by (first | exact y_notT rfl | exact y_notF rfl | exact y_notp rfl | exact y_notb rfl)) rfl ?_
          refine s_done ?_
          refine s_condT2 rfl (by with_reducible rfl) ?_
          refine s_seq ?_
          refine s_region ?_
          refine s_q (y_assign rfl) rfl ?_
          refine s_done ?_
          exact s_return ⟨by rw [termE, if_pos k1, if_neg (by omega), if_neg (by simpa using hr)], rfl⟩ (res_tmp Try.results37 rfl)
        | true =>
          refine s_q (by (first | exact y_notT rfl | exact y_notF rfl | exact y_notp rfl | exact y_notb rfl)) rfl ?_
          refine s_done ?_
          refine s_condF2 rfl (by with_reducible rfl) ?_
          refine s_skip ?_
          refine s_seq ?_
          refine s_region ?_
          refine s_q (y_assign rfl) rfl ?_
          refine s_done ?_
          exact s_return ⟨by rw [termE, if_pos k1, if_neg (by omega), if_pos (by simpa using hr)], rfl⟩ (res_tmp Try.results37 rfl)
      · rw [show [b.t1].any (fun x => decide (x ≠ 0)) = true by simp [e1]]
        refine s_q (by (first | exact y_pickT rfl rfl | exact y_pickF rfl rfl)) rfl ?_
        refine s_done ?_
        refine s_condT2 rfl (by with_reducible rfl) ?_
        refine s_seq ?_
        refine s_region ?_
        refine s_q (y_assign rfl) rfl ?_
        refine s_done ?_
        exact s_return ⟨by rw [termE, if_pos k1, if_pos (.inr e1)], rfl⟩ (res_tmp Try.results37 rfl)
    · rw [decide_eq_false ea]
      refine s_region ?_
      refine s_q (y_move rfl) rfl ?_
      refine s_q (by (first | exact y_notT rfl | exact y_notF rfl | exact y_notp rfl | exact y_notb rfl)) rfl ?_
      refine s_q (y_move rfl) rfl ?_
      refine s_unguard2 (b := true) rfl rfl (by with_reducible rfl) rfl rfl ?_
      refine s_unguard2 (b := true) rfl rfl (by with_reducible rfl) rfl rfl ?_
      refine s_unguard2 (b := true) rfl rfl (by with_reducible rfl) rfl rfl ?_
      refine s_unguard2 (b := true) rfl rfl (by with_reducible rfl) rfl rfl ?_
      refine s_unguard2 (b := true) rfl rfl (by with_reducible rfl) rfl rfl ?_
      refine s_q (by (first | exact y_pickT rfl rfl | exact y_pickF rfl rfl)) rfl ?_
      refine s_done ?_
      refine s_condT2 rfl (by with_reducible rfl) ?_
      refine s_seq ?_
      refine s_region ?_
      refine s_q (y_assign rfl) rfl ?_
      refine s_done ?_
      exact s_return ⟨by rw [termE, if_pos k1, if_pos (.inl ea)], rfl⟩ (res_tmp Try.results37 rfl)
  by_cases k2 : b.kind = 2
  · refine s_region ?_
    refine s_q (by (first | exact y_as (y_eql rfl rfl) (congrArg Value.bool (decide_eq_false k1)) | exact y_as (y_eql rfl rfl) (congrArg Value.bool (decide_eq_true k2)) | exact y_eql rfl rfl | exact y_eqlB rfl rfl rfl)) rfl ?_
    refine s_q (y_assign rfl) rfl ?_
    refine s_done ?_
    refine s_condF2 rfl (by with_reducible rfl) ?_
    refine s_seq ?_
    refine s_region ?_
    refine s_q (by (first | exact y_as (y_eql rfl rfl) (congrArg Value.bool (decide_eq_false k1)) | exact y_as (y_eql rfl rfl) (congrArg Value.bool (decide_eq_true k2)) | exact y_eql rfl rfl | exact y_eqlB rfl rfl rfl)) rfl ?_
    refine s_q (y_assign rfl) rfl ?_
    refine s_done ?_
    refine s_condT2 rfl (by with_reducible rfl) ?_
    refine s_seq ?_
    refine s_seq ?_
    refine s_region ?_
    refine s_q (by (first | exact y_ld rfl rfl rfl (by rfl) | exact y_ldN rfl rfl rfl (by rfl) | exact y_ldK rfl rfl rfl rfl (by assumption) (by omega) | exact y_ldI rfl rfl rfl rfl (by assumption) (by omega) (by omega))) rfl ?_
    refine s_q (by (first | exact y_fieldAddrB rfl rfl rfl rfl rfl rfl | exact y_fieldAddr rfl rfl rfl rfl rfl rfl)) rfl ?_
    refine s_q (by (first | exact y_ld rfl rfl rfl (by rfl) | exact y_ldN rfl rfl rfl (by rfl) | exact y_ldK rfl rfl rfl rfl (by assumption) (by omega) | exact y_ldI rfl rfl rfl rfl (by assumption) (by omega) (by omega))) rfl ?_
    refine s_bslice rfl rfl rfl rfl rfl rfl rfl rfl (fun nb => ?_)
    change J _ _ _ (cb nb 3 (ints [b.a]) :: _) _
    refine s_call (pre := []) (rem := _) rfl rfl tk (fun w N ho hl => regs_spec w N m A B (some ⟨nb, 0, none⟩) c d 1 sl bl [b.a] ho (kiOfCO hl (by repeat (first | exact List.mem_cons_self | refine List.mem_cons_of_mem _ ?_)) rfl) (by simp)) rfl ?_
    rintro e L' ⟨rfl, rfl⟩
    try simp only [List.nil_append, List.cons_append, List.append_nil]
    cases hr : [b.a].all (inR m.regs) with
    | false =>
      refine s_q (by (first | exact y_notT rfl | exact y_notF rfl | exact y_notp rfl | exact y_notb rfl)) rfl ?_
      refine s_done ?_
      refine s_condT2 rfl (by with_reducible rfl) ?_
      refine s_seq ?_
      refine s_region ?_
      refine s_q (y_assign rfl) rfl ?_
      refine s_done ?_
      exact s_return ⟨by rw [termE, if_neg k1, if_pos k2, if_neg (by simpa using hr)], rfl⟩ (res_tmp Try.results37 rfl)
    | true =>
      have hr1 : inR m.regs b.a = true := by simpa using hr
      refine s_q (by (first | exact y_notT rfl | exact y_notF rfl | exact y_notp rfl | exact y_notb rfl)) rfl ?_
      refine s_done ?_
      refine s_condF2 rfl (by with_reducible rfl) ?_
      refine s_skip ?_
      refine d_start ?_
      refine d_take 0 rfl (by kernel_rfl) (by (first | exact y_fieldAddrB rfl rfl rfl rfl rfl rfl | exact y_fieldAddr rfl rfl rfl rfl rfl rfl)) rfl ?_
      refine d_take 1 rfl (by kernel_rfl) (by (first | exact y_sliceA (kd := .i64) (m := 2) rfl rfl rfl (.inl ⟨rfl, rfl⟩) rfl | exact y_sliceHi rfl rfl rfl (by omega) rfl rfl)) rfl ?_
      refine d_take 2 rfl (by kernel_rfl) (by exact y_assign rfl) rfl ?_
      refine d_take 3 rfl (by kernel_rfl) (by exact y_assign rfl) rfl ?_
      refine d_done (by kernel_rfl) ?_
      refine s_endb ?_
      refine s_seq ?_
      refine s_seq ?_
      refine s_region ?_
      refine s_q (y_move rfl) rfl ?_
      refine s_q (by (first | exact y_notT rfl | exact y_notF rfl | exact y_notp rfl | exact y_notb rfl)) rfl ?_
      refine s_q (y_move rfl) rfl ?_
      refine s_guard2 rfl rfl (by with_reducible rfl) ?_
      refine s_q (by (first | exact y_fieldAddrB rfl rfl rfl rfl rfl rfl | exact y_fieldAddr rfl rfl rfl rfl rfl rfl)) rfl ?_
      refine s_guard2 rfl rfl (by with_reducible rfl) ?_
      refine s_q (y_move rfl) rfl ?_
      refine s_guard2 rfl rfl (by with_reducible rfl) ?_
      refine s_q (y_lenS rfl rfl rfl) rfl ?_
      refine s_guard2 rfl rfl (by with_reducible rfl) ?_
      refine s_q (by (first | exact y_sliceAt (m := 2) rfl rfl rfl rfl rfl | exact y_sliceHi rfl rfl rfl (by omega) rfl rfl)) rfl ?_
      refine s_guard2 rfl rfl (by with_reducible rfl) ?_
      refine s_call (pre := [Go.E.pu True]) (rem := _) rfl rfl tk (fun w N ho hl => ContainsFunc_spec w N (some ⟨bt, 2, none⟩) 0 [] 60 [] (Go.E.pu True) (fun x => decide (x ≠ 0)) rfl (kiOfCO (o := 2) hl (by repeat (first | exact List.mem_cons_self | refine List.mem_cons_of_mem _ ?_)) rfl) ho (by simp) hT) rfl ?_
      rintro e L' ⟨rfl, rfl⟩
      try simp only [List.nil_append, List.cons_append, List.append_nil]
      rw [show ([] : List Int).any (fun x => decide (x ≠ 0)) = false from rfl]
      refine s_q (by (first | exact y_pickT rfl rfl | exact y_pickF rfl rfl)) rfl ?_
      refine s_done ?_
      refine s_condF2 rfl (by with_reducible rfl) ?_
      refine s_skip ?_
      refine s_seq ?_
      refine s_seq ?_
      refine s_region ?_
      refine s_q (by (first | exact y_ld rfl rfl rfl (by rfl) | exact y_ldN rfl rfl rfl (by rfl) | exact y_ldK rfl rfl rfl rfl (by assumption) (by omega) | exact y_ldI rfl rfl rfl rfl (by assumption) (by omega) (by omega))) rfl ?_
      refine s_q (y_move rfl) rfl ?_
      refine s_call (pre := []) (rem := _) rfl rfl tk (fun w N ho hl => to_spec w N m A B (some ⟨bt, 2, none⟩) c d 2 sl bl [b.t0, b.t1] ho (kiOfCO (o := 2) hl (by repeat (first | exact List.mem_cons_self | refine List.mem_cons_of_mem _ ?_)) rfl) (by simp)) rfl ?_
      rintro e L' ⟨rfl, rfl⟩
      try simp only [List.nil_append, List.cons_append, List.append_nil]
      cases hr2 : [b.t0, b.t1].all (inR bl) with
      | false =>
        refine s_q (by (first | exact y_notT rfl | exact y_notF rfl | exact y_notp rfl | exact y_notb rfl)) rfl ?_
        refine s_done ?_
        refine s_condT2 rfl (by with_reducible rfl) ?_
        refine s_seq ?_
        refine s_region ?_
        refine s_q (y_assign rfl) rfl ?_
        refine s_done ?_
        exact s_return ⟨by rw [termE, if_neg k1, if_pos k2, if_pos hr1, if_neg (by intro x; simp [x.1, x.2] at hr2)], rfl⟩ (res_tmp Try.results37 rfl)
      | true =>
        refine s_q (by (first | exact y_notT rfl | exact y_notF rfl | exact y_notp rfl | exact y_notb rfl)) rfl ?_
        refine s_done ?_
        refine s_condF2 rfl (by with_reducible rfl) ?_
        refine s_skip ?_
        refine s_seq ?_
        refine s_region ?_
        refine s_q (y_assign rfl) rfl ?_
        refine s_done ?_
        exact s_return ⟨by rw [termE, if_neg k1, if_pos k2, if_pos hr1, if_pos (by simpa using hr2)], rfl⟩ (res_tmp Try.results37 rfl)
  by_cases k3 : b.kind = 3
  · refine s_region ?_
    refine s_q (by (first | exact y_as (y_eql rfl rfl) (congrArg Value.bool (decide_eq_false k1)) | exact y_as (y_eql rfl rfl) (congrArg Value.bool (decide_eq_false k2)) | exact y_as (y_eql rfl rfl) (congrArg Value.bool (decide_eq_true k3)) | exact y_eql rfl rfl | exact y_eqlB rfl rfl rfl)) rfl ?_
    refine s_q (y_assign rfl) rfl ?_
    refine s_done ?_
    refine s_condF2 rfl (by with_reducible rfl) ?_
    refine s_seq ?_
    refine s_region ?_
    refine s_q (by (first | exact y_as (y_eql rfl rfl) (congrArg Value.bool (decide_eq_false k1)) | exact y_as (y_eql rfl rfl) (congrArg Value.bool (decide_eq_false k2)) | exact y_as (y_eql rfl rfl) (congrArg Value.bool (decide_eq_true k3)) | exact y_eql rfl rfl | exact y_eqlB rfl rfl rfl)) rfl ?_
    refine s_q (y_assign rfl) rfl ?_
    refine s_done ?_
    refine s_condF2 rfl (by with_reducible rfl) ?_
    refine s_seq ?_
    refine s_region ?_
    refine s_q (by (first | exact y_as (y_eql rfl rfl) (congrArg Value.bool (decide_eq_false k1)) | exact y_as (y_eql rfl rfl) (congrArg Value.bool (decide_eq_false k2)) | exact y_as (y_eql rfl rfl) (congrArg Value.bool (decide_eq_true k3)) | exact y_eql rfl rfl | exact y_eqlB rfl rfl rfl)) rfl ?_
    refine s_q (y_assign rfl) rfl ?_
    refine s_done ?_
    refine s_condT2 rfl (by with_reducible rfl) ?_
    refine s_seq ?_
    refine s_seq ?_
    by_cases e0 : b.t0 = 0 ∧ b.t1 = 0
    · refine s_region ?_
      refine s_q (by (first | exact y_fieldAddrB rfl rfl rfl rfl rfl rfl | exact y_fieldAddr rfl rfl rfl rfl rfl rfl)) rfl ?_
      refine s_q (by (first | exact y_ldN rfl rfl rfl (by rfl) | exact y_ld rfl rfl rfl (by rfl) | exact y_ldN rfl rfl rfl (by rfl) | exact y_ldK rfl rfl rfl rfl (by assumption) (by omega) | exact y_ldI rfl rfl rfl rfl (by assumption) (by omega) (by omega))) rfl ?_
      refine s_q (by (first | exact y_buildA rfl rfl rfl rfl | exact y_build rfl rfl rfl rfl)) rfl ?_
      refine s_q (by (first | exact y_as (y_neqA2 (a := b.t0) (b := b.t1) (c := 0) (d := 0) rfl rfl rfl rfl rfl rfl (by kernel_rfl) (by kernel_rfl)) (congrArg Value.bool (decide_eq_false (fun h => h e0))) | exact y_neq rfl rfl | exact y_neqB rfl rfl rfl)) rfl ?_
      refine s_done ?_
      refine s_condF2 rfl (by with_reducible rfl) ?_
      refine s_skip ?_
      refine s_seq ?_
      refine s_seq ?_
      by_cases e1 : b.a = -1
      · refine s_region ?_
        refine s_q (by (first | exact y_fieldAddrB rfl rfl rfl rfl rfl rfl | exact y_fieldAddr rfl rfl rfl rfl rfl rfl)) rfl ?_
        refine s_q (by (first | exact y_ld rfl rfl rfl (by rfl) | exact y_ldN rfl rfl rfl (by rfl) | exact y_ldK rfl rfl rfl rfl (by assumption) (by omega) | exact y_ldI rfl rfl rfl rfl (by assumption) (by omega) (by omega))) rfl ?_
        refine s_q (by (first | exact y_as (y_neq rfl rfl) (congrArg Value.bool (decide_eq_false (fun h => h e1))) | exact y_neq rfl rfl | exact y_neqB rfl rfl rfl)) rfl ?_
        refine s_q (y_move rfl) rfl ?_
        refine s_unguard2 (b := false) rfl rfl (by with_reducible rfl) rfl rfl ?_
        refine s_unguard2 (b := false) rfl rfl (by with_reducible rfl) rfl rfl ?_
        refine s_unguard2 (b := false) rfl rfl (by with_reducible rfl) rfl rfl ?_
        refine s_unguard2 (b := false) rfl rfl (by with_reducible rfl) rfl rfl ?_
        refine s_unguard2 (b := false) rfl rfl (by with_reducible rfl) rfl rfl ?_
        refine s_unguard2 (b := false) rfl rfl (by with_reducible rfl) rfl rfl ?_
        refine s_q (by (first | exact y_pickT rfl rfl | exact y_pickF rfl rfl)) rfl ?_
        refine s_done ?_
        refine s_condF2 rfl (by with_reducible rfl) ?_
        refine s_skip ?_
        refine s_seq ?_
        refine s_region ?_
        refine s_q (y_assign rfl) rfl ?_
        refine s_done ?_
        exact s_return ⟨by rw [termE, if_neg k1, if_neg k2, if_pos k3, if_neg (by omega), if_neg (fun x => x.1 e1)], rfl⟩ (res_tmp Try.results37 rfl)
      by_cases e2 : b.a = m.ret
      · refine s_region ?_
        refine s_q (by (first | exact y_fieldAddrB rfl rfl rfl rfl rfl rfl | exact y_fieldAddr rfl rfl rfl rfl rfl rfl)) rfl ?_
        refine s_q (by (first | exact y_ld rfl rfl rfl (by rfl) | exact y_ldN rfl rfl rfl (by rfl) | exact y_ldK rfl rfl rfl rfl (by assumption) (by omega) | exact y_ldI rfl rfl rfl rfl (by assumption) (by omega) (by omega))) rfl ?_
        refine s_q (by (first | exact y_as (y_neq (n := -1) rfl rfl) (congrArg Value.bool (decide_eq_true e1)) | exact y_as (y_neq rfl rfl) (congrArg Value.bool (decide_eq_false (fun h => h e2))) | exact y_neq rfl rfl | exact y_neqB rfl rfl rfl)) rfl ?_
        refine s_q (y_move rfl) rfl ?_
        refine s_guard2 rfl rfl (by with_reducible rfl) ?_
        refine s_q (by (first | exact y_fieldAddrB rfl rfl rfl rfl rfl rfl | exact y_fieldAddr rfl rfl rfl rfl rfl rfl)) rfl ?_
        refine s_guard2 rfl rfl (by with_reducible rfl) ?_
        refine s_q (by (first | exact y_ld rfl rfl rfl (by rfl) | exact y_ldN rfl rfl rfl (by rfl) | exact y_ldK rfl rfl rfl rfl (by assumption) (by omega) | exact y_ldI rfl rfl rfl rfl (by assumption) (by omega) (by omega))) rfl ?_
        refine s_guard2 rfl rfl (by with_reducible rfl) ?_
        refine s_q (by (first | exact y_fieldAddrB rfl rfl rfl rfl rfl rfl | exact y_fieldAddr rfl rfl rfl rfl rfl rfl)) rfl ?_
        refine s_guard2 rfl rfl (by with_reducible rfl) ?_
        refine s_q (by (first | exact y_fieldAddrB rfl rfl rfl rfl rfl rfl | exact y_fieldAddr rfl rfl rfl rfl rfl rfl)) rfl ?_
        refine s_guard2 rfl rfl (by with_reducible rfl) ?_
        refine s_q (by (first | exact y_ld rfl rfl rfl (by rfl) | exact y_ldN rfl rfl rfl (by rfl) | exact y_ldK rfl rfl rfl rfl (by assumption) (by omega) | exact y_ldI rfl rfl rfl rfl (by assumption) (by omega) (by omega))) rfl ?_
        refine s_guard2 rfl rfl (by with_reducible rfl) ?_
        refine s_q (by (first | exact y_as (y_neq (n := -1) rfl rfl) (congrArg Value.bool (decide_eq_true e1)) | exact y_as (y_neq rfl rfl) (congrArg Value.bool (decide_eq_false (fun h => h e2))) | exact y_neq rfl rfl | exact y_neqB rfl rfl rfl)) rfl ?_
        refine s_q (by (first | exact y_pickT rfl rfl | exact y_pickF rfl rfl)) rfl ?_
        refine s_done ?_
        refine s_condF2 rfl (by with_reducible rfl) ?_
        refine s_skip ?_
        refine s_seq ?_
        refine s_region ?_
        refine s_q (y_assign rfl) rfl ?_
        refine s_done ?_
        exact s_return ⟨by rw [termE, if_neg k1, if_neg k2, if_pos k3, if_neg (by omega), if_neg (fun x => x.2 e2)], rfl⟩ (res_tmp Try.results37 rfl)
      · refine s_region ?_
        refine s_q (by (first | exact y_fieldAddrB rfl rfl rfl rfl rfl rfl | exact y_fieldAddr rfl rfl rfl rfl rfl rfl)) rfl ?_
        refine s_q (by (first | exact y_ld rfl rfl rfl (by rfl) | exact y_ldN rfl rfl rfl (by rfl) | exact y_ldK rfl rfl rfl rfl (by assumption) (by omega) | exact y_ldI rfl rfl rfl rfl (by assumption) (by omega) (by omega))) rfl ?_
        refine s_q (by (first | exact y_as (y_neq (n := -1) rfl rfl) (congrArg Value.bool (decide_eq_true e1)) | exact y_as (y_neq rfl rfl) (congrArg Value.bool (decide_eq_true e2)) | exact y_neq rfl rfl | exact y_neqB rfl rfl rfl)) rfl ?_
        refine s_q (y_move rfl) rfl ?_
        refine s_guard2 rfl rfl (by with_reducible rfl) ?_
        refine s_q (by (first | exact y_fieldAddrB rfl rfl rfl rfl rfl rfl | exact y_fieldAddr rfl rfl rfl rfl rfl rfl)) rfl ?_
        refine s_guard2 rfl rfl (by with_reducible rfl) ?_
        refine s_q (by (first | exact y_ld rfl rfl rfl (by rfl) | exact y_ldN rfl rfl rfl (by rfl) | exact y_ldK rfl rfl rfl rfl (by assumption) (by omega) | exact y_ldI rfl rfl rfl rfl (by assumption) (by omega) (by omega))) rfl ?_
        refine s_guard2 rfl rfl (by with_reducible rfl) ?_
        refine s_q (by (first | exact y_fieldAddrB rfl rfl rfl rfl rfl rfl | exact y_fieldAddr rfl rfl rfl rfl rfl rfl)) rfl ?_
        refine s_guard2 rfl rfl (by with_reducible rfl) ?_
        refine s_q (by (first | exact y_fieldAddrB rfl rfl rfl rfl rfl rfl | exact y_fieldAddr rfl rfl rfl rfl rfl rfl)) rfl ?_
        refine s_guard2 rfl rfl (by with_reducible rfl) ?_
        refine s_q (by (first | exact y_ld rfl rfl rfl (by rfl) | exact y_ldN rfl rfl rfl (by rfl) | exact y_ldK rfl rfl rfl rfl (by assumption) (by omega) | exact y_ldI rfl rfl rfl rfl (by assumption) (by omega) (by omega))) rfl ?_
        refine s_guard2 rfl rfl (by with_reducible rfl) ?_
        refine s_q (by (first | exact y_as (y_neq (n := -1) rfl rfl) (congrArg Value.bool (decide_eq_true e1)) | exact y_as (y_neq rfl rfl) (congrArg Value.bool (decide_eq_true e2)) | exact y_neq rfl rfl | exact y_neqB rfl rfl rfl)) rfl ?_
        refine s_q (by (first | exact y_pickT rfl rfl | exact y_pickF rfl rfl)) rfl ?_
        refine s_done ?_
        refine s_condT2 rfl (by with_reducible rfl) ?_
        refine s_seq ?_
        refine s_region ?_
        refine s_q (y_assign rfl) rfl ?_
        refine s_done ?_
        exact s_return ⟨by rw [termE, if_neg k1, if_neg k2, if_pos k3, if_neg (by omega), if_pos ⟨e1, e2⟩], rfl⟩ (res_tmp Try.results37 rfl)
    · refine s_region ?_
      refine s_q (by (first | exact y_fieldAddrB rfl rfl rfl rfl rfl rfl | exact y_fieldAddr rfl rfl rfl rfl rfl rfl)) rfl ?_
      refine s_q (by (first | exact y_ldN rfl rfl rfl (by rfl) | exact y_ld rfl rfl rfl (by rfl) | exact y_ldN rfl rfl rfl (by rfl) | exact y_ldK rfl rfl rfl rfl (by assumption) (by omega) | exact y_ldI rfl rfl rfl rfl (by assumption) (by omega) (by omega))) rfl ?_
      refine s_q (by (first | exact y_buildA rfl rfl rfl rfl | exact y_build rfl rfl rfl rfl)) rfl ?_
      refine s_q (by (first | exact y_as (y_neqA2 (a := b.t0) (b := b.t1) (c := 0) (d := 0) rfl rfl rfl rfl rfl rfl (by kernel_rfl) (by kernel_rfl)) (congrArg Value.bool (decide_eq_true e0)) | exact y_neq rfl rfl | exact y_neqB rfl rfl rfl)) rfl ?_
      refine s_done ?_
      refine s_condT2 rfl (by with_reducible rfl) ?_
      refine s_seq ?_
      refine s_region ?_
      refine s_q (y_assign rfl) rfl ?_
      refine s_done ?_
      exact s_return ⟨by rw [termE, if_neg k1, if_neg k2, if_pos k3, if_pos (by omega)], rfl⟩ (res_tmp Try.results37 rfl)
  by_cases k4 : b.kind = 4
  · refine s_region ?_
    refine s_q (by (first | exact y_as (y_eql rfl rfl) (congrArg Value.bool (decide_eq_false k1)) | exact y_as (y_eql rfl rfl) (congrArg Value.bool (decide_eq_false k2)) | exact y_as (y_eql rfl rfl) (congrArg Value.bool (decide_eq_false k3)) | exact y_as (y_eql rfl rfl) (congrArg Value.bool (decide_eq_true k4)) | exact y_eql rfl rfl | exact y_eqlB rfl rfl rfl)) rfl ?_
    refine s_q (y_assign rfl) rfl ?_
    refine s_done ?_
    refine s_condF2 rfl (by with_reducible rfl) ?_
    refine s_seq ?_
    refine s_region ?_
    refine s_q (by (first | exact y_as (y_eql rfl rfl) (congrArg Value.bool (decide_eq_false k1)) | exact y_as (y_eql rfl rfl) (congrArg Value.bool (decide_eq_false k2)) | exact y_as (y_eql rfl rfl) (congrArg Value.bool (decide_eq_false k3)) | exact y_as (y_eql rfl rfl) (congrArg Value.bool (decide_eq_true k4)) | exact y_eql rfl rfl | exact y_eqlB rfl rfl rfl)) rfl ?_
    refine s_q (y_assign rfl) rfl ?_
    refine s_done ?_
    refine s_condF2 rfl (by with_reducible rfl) ?_
    refine s_seq ?_
    refine s_region ?_
    refine s_q (by (first | exact y_as (y_eql rfl rfl) (congrArg Value.bool (decide_eq_false k1)) | exact y_as (y_eql rfl rfl) (congrArg Value.bool (decide_eq_false k2)) | exact y_as (y_eql rfl rfl) (congrArg Value.bool (decide_eq_false k3)) | exact y_as (y_eql rfl rfl) (congrArg Value.bool (decide_eq_true k4)) | exact y_eql rfl rfl | exact y_eqlB rfl rfl rfl)) rfl ?_
    refine s_q (y_assign rfl) rfl ?_
    refine s_done ?_
    refine s_condF2 rfl (by with_reducible rfl) ?_
    refine s_seq ?_
    refine s_region ?_
    refine s_q (by (first | exact y_as (y_eql rfl rfl) (congrArg Value.bool (decide_eq_false k1)) | exact y_as (y_eql rfl rfl) (congrArg Value.bool (decide_eq_false k2)) | exact y_as (y_eql rfl rfl) (congrArg Value.bool (decide_eq_false k3)) | exact y_as (y_eql rfl rfl) (congrArg Value.bool (decide_eq_true k4)) | exact y_eql rfl rfl | exact y_eqlB rfl rfl rfl)) rfl ?_
    refine s_q (y_assign rfl) rfl ?_
    refine s_done ?_
    refine s_condT2 rfl (by with_reducible rfl) ?_
    refine s_skip ?_
    refine s_endb ?_
    refine s_seq ?_
    refine s_seq ?_
    by_cases ea : b.a = 0
    · rw [decide_eq_true ea]
      refine s_region ?_
      refine s_q (y_move rfl) rfl ?_
      refine s_q (by (first | exact y_notT rfl | exact y_notF rfl | exact y_notp rfl | exact y_notb rfl)) rfl ?_
      refine s_q (y_move rfl) rfl ?_
      refine s_guard2 rfl rfl (by with_reducible rfl) ?_
      refine s_q (by (first | exact y_fieldAddrB rfl rfl rfl rfl rfl rfl | exact y_fieldAddr rfl rfl rfl rfl rfl rfl)) rfl ?_
      refine s_guard2 rfl rfl (by with_reducible rfl) ?_
      refine s_q (y_move rfl) rfl ?_
      refine s_guard2 rfl rfl (by with_reducible rfl) ?_
      refine s_q (y_lenS rfl rfl rfl) rfl ?_
      refine s_guard2 rfl rfl (by with_reducible rfl) ?_
      refine s_q (by (first | exact y_sliceAt (m := 0) rfl rfl rfl rfl rfl | exact y_sliceHi rfl rfl rfl (by omega) rfl rfl)) rfl ?_
      refine s_guard2 rfl rfl (by with_reducible rfl) ?_
      refine s_call (pre := [Go.E.pu True]) (rem := _) rfl rfl tk (fun w N ho hl => ContainsFunc_spec w N (some ⟨bt, 2, none⟩) 2 [b.t0, b.t1] 60 [] (Go.E.pu True) (fun x => decide (x ≠ 0)) rfl (kiOfCO (o := 2) hl (by repeat (first | exact List.mem_cons_self | refine List.mem_cons_of_mem _ ?_)) rfl) ho (by simp) hT) rfl ?_
      rintro e L' ⟨rfl, rfl⟩
      try simp only [List.nil_append, List.cons_append, List.append_nil]
      by_cases e1 : b.t0 = 0 ∧ b.t1 = 0
      · rw [show [b.t0, b.t1].any (fun x => decide (x ≠ 0)) = false by simp [e1.1, e1.2]]
        refine s_q (by (first | exact y_pickT rfl rfl | exact y_pickF rfl rfl)) rfl ?_
        refine s_done ?_
        refine s_condF2 rfl (by with_reducible rfl) ?_
        refine s_skip ?_
        refine s_seq ?_
        refine s_seq ?_
        refine s_region ?_
        refine s_q (by (first | exact y_ld rfl rfl rfl (by rfl) | exact y_ldN rfl rfl rfl (by rfl) | exact y_ldK rfl rfl rfl rfl (by assumption) (by omega) | exact y_ldI rfl rfl rfl rfl (by assumption) (by omega) (by omega))) rfl ?_
        refine s_q (y_move rfl) rfl ?_
        refine s_call (pre := []) (rem := _) rfl rfl tk (fun w N ho hl => to_spec w N m A B (some ⟨bt, 2, none⟩) c d 2 sl bl [] ho (kiOfCO (o := 2) hl (by repeat (first | exact List.mem_cons_self | refine List.mem_cons_of_mem _ ?_)) rfl) (by simp)) rfl ?_
        rintro e L' ⟨rfl, rfl⟩
        try simp only [List.nil_append, List.cons_append, List.append_nil]
        rw [show ([] : List Int).all (inR bl) = true from rfl]
        refine s_q (by (first | exact y_notT rfl | exact y_notF rfl | exact y_notp rfl | exact y_notb rfl)) rfl ?_
        refine s_done ?_
        refine s_condF2 rfl (by with_reducible rfl) ?_
        refine s_skip ?_
        refine s_seq ?_
        refine s_region ?_
        refine s_q (y_assign rfl) rfl ?_
        refine s_done ?_
        exact s_return ⟨by rw [termE, if_neg k1, if_neg k2, if_neg k3, if_pos k4, if_neg (by omega)], rfl⟩ (res_tmp Try.results37 rfl)
      · rw [show [b.t0, b.t1].any (fun x => decide (x ≠ 0)) = true by simp; omega]
        refine s_q (by (first | exact y_pickT rfl rfl | exact y_pickF rfl rfl)) rfl ?_
        refine s_done ?_
        refine s_condT2 rfl (by with_reducible rfl) ?_
        refine s_seq ?_
        refine s_region ?_
        refine s_q (y_assign rfl) rfl ?_
        refine s_done ?_
        exact s_return ⟨by rw [termE, if_neg k1, if_neg k2, if_neg k3, if_pos k4, if_pos (by omega)], rfl⟩ (res_tmp Try.results37 rfl)
    · rw [decide_eq_false ea]
      refine s_region ?_
      refine s_q (y_move rfl) rfl ?_
      refine s_q (by (first | exact y_notT rfl | exact y_notF rfl | exact y_notp rfl | exact y_notb rfl)) rfl ?_
      refine s_q (y_move rfl) rfl ?_
      refine s_unguard2 (b := true) rfl rfl (by with_reducible rfl) rfl rfl ?_
      refine s_unguard2 (b := true) rfl rfl (by with_reducible rfl) rfl rfl ?_
      refine s_unguard2 (b := true) rfl rfl (by with_reducible rfl) rfl rfl ?_
      refine s_unguard2 (b := true) rfl rfl (by with_reducible rfl) rfl rfl ?_
      refine s_unguard2 (b := true) rfl rfl (by with_reducible rfl) rfl rfl ?_
      refine s_q (by (first | exact y_pickT rfl rfl | exact y_pickF rfl rfl)) rfl ?_
      refine s_done ?_
      refine s_condT2 rfl (by with_reducible rfl) ?_
      refine s_seq ?_
      refine s_region ?_
      refine s_q (y_assign rfl) rfl ?_
      refine s_done ?_
      exact s_return ⟨by rw [termE, if_neg k1, if_neg k2, if_neg k3, if_pos k4, if_pos (.inl ea)], rfl⟩ (res_tmp Try.results37 rfl)
  · refine s_region ?_
    refine s_q (by (first | exact y_as (y_eql rfl rfl) (congrArg Value.bool (decide_eq_false k1)) | exact y_as (y_eql rfl rfl) (congrArg Value.bool (decide_eq_false k2)) | exact y_as (y_eql rfl rfl) (congrArg Value.bool (decide_eq_false k3)) | exact y_as (y_eql rfl rfl) (congrArg Value.bool (decide_eq_false k4)) | exact y_eql rfl rfl | exact y_eqlB rfl rfl rfl)) rfl ?_
    refine s_q (y_assign rfl) rfl ?_
    refine s_done ?_
    refine s_condF2 rfl (by with_reducible rfl) ?_
    refine s_seq ?_
    refine s_region ?_
    refine s_q (by (first | exact y_as (y_eql rfl rfl) (congrArg Value.bool (decide_eq_false k1)) | exact y_as (y_eql rfl rfl) (congrArg Value.bool (decide_eq_false k2)) | exact y_as (y_eql rfl rfl) (congrArg Value.bool (decide_eq_false k3)) | exact y_as (y_eql rfl rfl) (congrArg Value.bool (decide_eq_false k4)) | exact y_eql rfl rfl | exact y_eqlB rfl rfl rfl)) rfl ?_
    refine s_q (y_assign rfl) rfl ?_
    refine s_done ?_
    refine s_condF2 rfl (by with_reducible rfl) ?_
    refine s_seq ?_
    refine s_region ?_
    refine s_q (by (first | exact y_as (y_eql rfl rfl) (congrArg Value.bool (decide_eq_false k1)) | exact y_as (y_eql rfl rfl) (congrArg Value.bool (decide_eq_false k2)) | exact y_as (y_eql rfl rfl) (congrArg Value.bool (decide_eq_false k3)) | exact y_as (y_eql rfl rfl) (congrArg Value.bool (decide_eq_false k4)) | exact y_eql rfl rfl | exact y_eqlB rfl rfl rfl)) rfl ?_
    refine s_q (y_assign rfl) rfl ?_
    refine s_done ?_
    refine s_condF2 rfl (by with_reducible rfl) ?_
    refine s_seq ?_
    refine s_region ?_
    refine s_q (by (first | exact y_as (y_eql rfl rfl) (congrArg Value.bool (decide_eq_false k1)) | exact y_as (y_eql rfl rfl) (congrArg Value.bool (decide_eq_false k2)) | exact y_as (y_eql rfl rfl) (congrArg Value.bool (decide_eq_false k3)) | exact y_as (y_eql rfl rfl) (congrArg Value.bool (decide_eq_false k4)) | exact y_eql rfl rfl | exact y_eqlB rfl rfl rfl)) rfl ?_
    refine s_q (y_assign rfl) rfl ?_
    refine s_done ?_
    refine s_condF2 rfl (by with_reducible rfl) ?_
    refine s_seq ?_
    refine s_region ?_
    refine s_q (y_assign rfl) rfl ?_
    refine s_done ?_
    exact s_return ⟨by rw [termE, if_neg k1, if_neg k2, if_neg k3, if_neg k4], rfl⟩ (res_tmp Try.results37 rfl)
end Go.Proofs.Ytgpebcfeeagoaaa
