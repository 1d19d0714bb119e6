/- Layer 6 (mir), the document's: what an instruction reads and writes, what an end needs; rows of places compared. -/
import Derived.Test.YtgpebcfeeagoaaaMirN
import Derived.Test.YtgpebcfeeagoaaaEEb
set_option linter.unusedVariables false
set_option linter.unusedSimpArgs false
namespace Go.Proofs.Ytgpebcfeeagoaaa
open Go Go.E
set_option maxRecDepth 4000
set_option maxHeartbeats 1000000
theorem refNeeds_spec (w : World) (N : Nat → Prop) (kind a t0 t1 : Int) (ho : Owns w [] N) :
    Ret Try.prog 27 [.agg #[.int .i64 kind, .int .i64 a, .int .i64 t0, .int .i64 t1]] w N (LocRow (needsL kind a)) := by
  refine ret_of_J cx Try.func27 rfl (Nat.le_of_ble_eq_true rfl) ho ?_
  refine s_seq ?_
  refine s_region ?_
  first | (refine s_box1 rfl rfl rfl (fun b1 => ?_)) | (refine s_boxA rfl rfl (fun b1 => ?_))
  change J _ _ _ (cb b1 40 [.int .i64 kind, .int .i64 a, .int .i64 t0, .int .i64 t1] :: _) _
  refine s_q (y_assign rfl) rfl ?_
  refine s_done ?_
  refine s_seq ?_
  refine s_seq ?_
  unfold needsL
  by_cases h2 : kind = 2
  · subst h2
    rw [if_pos (.inr rfl), show regsL [a] = [(false, a)] from rfl]
    refine s_region ?_
    refine s_q (by (first | exact y_fieldAddrB rfl rfl rfl rfl rfl rfl | exact y_fieldAddr rfl rfl rfl rfl rfl rfl)) rfl ?_
    refine s_q (by (first | exact y_ld rfl rfl rfl (by rfl) | exact y_ldN rfl rfl rfl (by rfl) | exact y_ldK rfl rfl rfl rfl (by assumption) (by omega) | exact y_ldI rfl rfl rfl rfl (by assumption) (by omega) (by omega))) rfl ?_
    refine s_q (by (first | exact y_eql rfl rfl | exact y_eqlB rfl rfl rfl)) rfl ?_
    refine s_q (y_move rfl) rfl ?_
    refine s_unguard2 (b := true) rfl rfl (congrArg Value.bool (by decide)) rfl rfl ?_
    refine s_unguard2 (b := true) rfl rfl (congrArg Value.bool (by decide)) rfl rfl ?_
    refine s_unguard2 (b := true) rfl rfl (congrArg Value.bool (by decide)) rfl rfl ?_
    refine s_unguard2 (b := true) rfl rfl (congrArg Value.bool (by decide)) rfl rfl ?_
    refine s_unguardU rfl rfl rfl ?_
    refine s_unguardU rfl rfl rfl ?_
    refine s_unguardU rfl rfl rfl ?_
    refine s_unguard2 (b := true) rfl rfl (congrArg Value.bool (by decide)) rfl rfl ?_
    refine s_q (by (first | exact y_pickT rfl rfl | exact y_pickF rfl rfl)) rfl ?_
    refine s_done ?_
    refine s_condT2 rfl (congrArg Value.bool (by decide)) ?_
    refine s_seq ?_
    refine s_region ?_
    refine s_q (by (first | exact y_fieldAddrB rfl rfl rfl rfl rfl rfl | exact y_fieldAddr rfl rfl rfl rfl rfl rfl)) rfl ?_
    refine s_q (by (first | exact y_ld rfl rfl rfl (by rfl) | exact y_ldN rfl rfl rfl (by rfl) | exact y_ldK rfl rfl rfl rfl (by assumption) (by omega) | exact y_ldI rfl rfl rfl rfl (by assumption) (by omega) (by omega))) rfl ?_
    refine s_call (pre := []) (rem := _) rfl rfl tk (fun w N ho hl => reg_spec w N a ho) rfl ?_
    rintro e L' ⟨rfl, rfl⟩
    try simp only [List.nil_append, List.cons_append, List.append_nil]
    refine s_bslice rfl rfl rfl rfl rfl rfl rfl rfl (fun b => ?_)
    change J _ _ _ (cb b 60 ([((false, a) : LocD)].flatMap encLoc) :: _) _
    refine J.imp (B := Sl 60 2 (some ⟨b, 0, none⟩) 1 1 ([((false, a) : LocD)].flatMap encLoc)) (fun h hh => Sl.ofCb rfl (by decide) hh) ?_
    refine s_q (y_assign rfl) rfl ?_
    refine s_done ?_
    exact s_return (R := LocRow _) ⟨_, _, rfl, rfl⟩ (res_tmp Try.results27 rfl)
  · by_cases h3 : kind = 3
    · subst h3
      by_cases h4 : a = -1
      · subst h4
        rw [if_neg (by simp)]
        refine s_region ?_
        refine s_q (by (first | exact y_fieldAddrB rfl rfl rfl rfl rfl rfl | exact y_fieldAddr rfl rfl rfl rfl rfl rfl)) rfl ?_
        refine s_q (by (first | exact y_ld rfl rfl rfl (by rfl) | exact y_ldN rfl rfl rfl (by rfl) | exact y_ldK rfl rfl rfl rfl (by assumption) (by omega) | exact y_ldI rfl rfl rfl rfl (by assumption) (by omega) (by omega))) rfl ?_
        refine s_q (by (first | exact y_eql rfl rfl | exact y_eqlB rfl rfl rfl)) rfl ?_
        refine s_q (y_move rfl) rfl ?_
        refine s_guard2 rfl rfl (congrArg Value.bool (by decide)) ?_
        refine s_q (by (first | exact y_fieldAddrB rfl rfl rfl rfl rfl rfl | exact y_fieldAddr rfl rfl rfl rfl rfl rfl)) rfl ?_
        refine s_guard2 rfl rfl (congrArg Value.bool (by decide)) ?_
        refine s_q (by (first | exact y_ld rfl rfl rfl (by rfl) | exact y_ldN rfl rfl rfl (by rfl) | exact y_ldK rfl rfl rfl rfl (by assumption) (by omega) | exact y_ldI rfl rfl rfl rfl (by assumption) (by omega) (by omega))) rfl ?_
        refine s_guard2 rfl rfl (congrArg Value.bool (by decide)) ?_
        refine s_q (by (first | exact y_eql rfl rfl | exact y_eqlB rfl rfl rfl)) rfl ?_
        refine s_guard2 rfl rfl (congrArg Value.bool (by decide)) ?_
        refine s_q (y_move rfl) rfl ?_
        refine s_guard2 rfl rfl (congrArg Value.bool (by decide)) ?_
        refine s_q (by (first | exact y_fieldAddrB rfl rfl rfl rfl rfl rfl | exact y_fieldAddr rfl rfl rfl rfl rfl rfl)) rfl ?_
        refine s_guard2 rfl rfl (congrArg Value.bool (by decide)) ?_
        refine s_q (by (first | exact y_ld rfl rfl rfl (by rfl) | exact y_ldN rfl rfl rfl (by rfl) | exact y_ldK rfl rfl rfl rfl (by assumption) (by omega) | exact y_ldI rfl rfl rfl rfl (by assumption) (by omega) (by omega))) rfl ?_
        refine s_guard2 rfl rfl (congrArg Value.bool (by decide)) ?_
        refine s_q (by (first | exact y_neq rfl rfl | exact y_neqB rfl rfl rfl)) rfl ?_
        refine s_guard2 rfl rfl (congrArg Value.bool (by decide)) ?_
        refine s_q (by (first | exact y_pickT rfl rfl | exact y_pickF rfl rfl)) rfl ?_
        refine s_q (by (first | exact y_pickT rfl rfl | exact y_pickF rfl rfl)) rfl ?_
        refine s_done ?_
        refine s_condF2 rfl (congrArg Value.bool (by decide)) ?_
        refine s_skip ?_
        refine s_seq ?_
        refine s_region ?_
        refine s_q (y_assign rfl) rfl ?_
        refine s_done ?_
        refine J.emp (B := Sl 60 2 none 0 0 (([] : List LocD).flatMap encLoc)) (Sl.ofNil _ _) ?_
        exact s_return (R := LocRow _) ⟨_, _, rfl, rfl⟩ (res_tmp Try.results27 rfl)
      · rw [if_pos (.inl ⟨rfl, h4⟩), show regsL [a] = [(false, a)] from rfl]
        refine s_region ?_
        refine s_q (by (first | exact y_fieldAddrB rfl rfl rfl rfl rfl rfl | exact y_fieldAddr rfl rfl rfl rfl rfl rfl)) rfl ?_
        refine s_q (by (first | exact y_ld rfl rfl rfl (by rfl) | exact y_ldN rfl rfl rfl (by rfl) | exact y_ldK rfl rfl rfl rfl (by assumption) (by omega) | exact y_ldI rfl rfl rfl rfl (by assumption) (by omega) (by omega))) rfl ?_
        refine s_q (by (first | exact y_eql rfl rfl | exact y_eqlB rfl rfl rfl)) rfl ?_
        refine s_q (y_move rfl) rfl ?_
        refine s_guard2 rfl rfl (congrArg Value.bool (by decide)) ?_
        refine s_q (by (first | exact y_fieldAddrB rfl rfl rfl rfl rfl rfl | exact y_fieldAddr rfl rfl rfl rfl rfl rfl)) rfl ?_
        refine s_guard2 rfl rfl (congrArg Value.bool (by decide)) ?_
        refine s_q (by (first | exact y_ld rfl rfl rfl (by rfl) | exact y_ldN rfl rfl rfl (by rfl) | exact y_ldK rfl rfl rfl rfl (by assumption) (by omega) | exact y_ldI rfl rfl rfl rfl (by assumption) (by omega) (by omega))) rfl ?_
        refine s_guard2 rfl rfl (congrArg Value.bool (by decide)) ?_
        refine s_q (by (first | exact y_eql rfl rfl | exact y_eqlB rfl rfl rfl)) rfl ?_
        refine s_guard2 rfl rfl (congrArg Value.bool (by decide)) ?_
        refine s_q (y_move rfl) rfl ?_
        refine s_guard2 rfl rfl (congrArg Value.bool (by decide)) ?_
        refine s_q (by (first | exact y_fieldAddrB rfl rfl rfl rfl rfl rfl | exact y_fieldAddr rfl rfl rfl rfl rfl rfl)) rfl ?_
        refine s_guard2 rfl rfl (congrArg Value.bool (by decide)) ?_
        refine s_q (by (first | exact y_ld rfl rfl rfl (by rfl) | exact y_ldN rfl rfl rfl (by rfl) | exact y_ldK rfl rfl rfl rfl (by assumption) (by omega) | exact y_ldI rfl rfl rfl rfl (by assumption) (by omega) (by omega))) rfl ?_
        refine s_guard2 rfl rfl (congrArg Value.bool (by decide)) ?_
        refine s_q (by (first | exact y_as (y_neq rfl rfl) (congrArg Value.bool (decide_eq_true h4)) | exact y_neq rfl rfl | exact y_neqB rfl rfl rfl)) rfl ?_
        refine s_guard2 rfl rfl (congrArg Value.bool (by decide)) ?_
        refine s_q (by (first | exact y_pickT rfl rfl | exact y_pickF rfl rfl)) rfl ?_
        refine s_q (by (first | exact y_pickT rfl rfl | exact y_pickF rfl rfl)) rfl ?_
        refine s_done ?_
        refine s_condT2 rfl (by with_reducible rfl) ?_
        refine s_seq ?_
        refine s_region ?_
        refine s_q (by (first | exact y_fieldAddrB rfl rfl rfl rfl rfl rfl | exact y_fieldAddr rfl rfl rfl rfl rfl rfl)) rfl ?_
        refine s_q (by (first | exact y_ld rfl rfl rfl (by rfl) | exact y_ldN rfl rfl rfl (by rfl) | exact y_ldK rfl rfl rfl rfl (by assumption) (by omega) | exact y_ldI rfl rfl rfl rfl (by assumption) (by omega) (by omega))) rfl ?_
        refine s_call (pre := []) (rem := _) rfl rfl tk (fun w N ho hl => reg_spec w N a ho) rfl ?_
        rintro e L' ⟨rfl, rfl⟩
        try simp only [List.nil_append, List.cons_append, List.append_nil]
        refine s_bslice rfl rfl rfl rfl rfl rfl rfl rfl (fun b => ?_)
        change J _ _ _ (cb b 60 ([((false, a) : LocD)].flatMap encLoc) :: _) _
        refine J.imp (B := Sl 60 2 (some ⟨b, 0, none⟩) 1 1 ([((false, a) : LocD)].flatMap encLoc)) (fun h hh => Sl.ofCb rfl (by decide) hh) ?_
        refine s_q (y_assign rfl) rfl ?_
        refine s_done ?_
        exact s_return (R := LocRow _) ⟨_, _, rfl, rfl⟩ (res_tmp Try.results27 rfl)
    · rw [if_neg (fun x => x.elim (fun y => h3 y.1) h2)]
      refine s_region ?_
      refine s_q (by (first | exact y_fieldAddrB rfl rfl rfl rfl rfl rfl | exact y_fieldAddr rfl rfl rfl rfl rfl rfl)) rfl ?_
      refine s_q (by (first | exact y_ld rfl rfl rfl (by rfl) | exact y_ldN rfl rfl rfl (by rfl) | exact y_ldK rfl rfl rfl rfl (by assumption) (by omega) | exact y_ldI rfl rfl rfl rfl (by assumption) (by omega) (by omega))) rfl ?_
      refine s_q (by (first | exact y_as (y_eql (n := 3) rfl rfl) (congrArg Value.bool (decide_eq_false h3)) | exact y_as (y_eql (n := 2) rfl rfl) (congrArg Value.bool (decide_eq_false h2)) | exact y_eql rfl rfl | exact y_eqlB rfl rfl rfl)) rfl ?_
      refine s_q (y_move rfl) rfl ?_
      refine s_guard2 rfl rfl (by with_reducible rfl) ?_
      refine s_q (by (first | exact y_fieldAddrB rfl rfl rfl rfl rfl rfl | exact y_fieldAddr rfl rfl rfl rfl rfl rfl)) rfl ?_
      refine s_guard2 rfl rfl (by with_reducible rfl) ?_
      refine s_q (by (first | exact y_ld rfl rfl rfl (by rfl) | exact y_ldN rfl rfl rfl (by rfl) | exact y_ldK rfl rfl rfl rfl (by assumption) (by omega) | exact y_ldI rfl rfl rfl rfl (by assumption) (by omega) (by omega))) rfl ?_
      refine s_guard2 rfl rfl (by with_reducible rfl) ?_
      refine s_q (by (first | exact y_as (y_eql (n := 3) rfl rfl) (congrArg Value.bool (decide_eq_false h3)) | exact y_as (y_eql (n := 2) rfl rfl) (congrArg Value.bool (decide_eq_false h2)) | exact y_eql rfl rfl | exact y_eqlB rfl rfl rfl)) rfl ?_
      refine s_guard2 rfl rfl (by with_reducible rfl) ?_
      refine s_q (y_move rfl) rfl ?_
      refine s_unguard2 (b := false) rfl rfl (by with_reducible rfl) rfl rfl ?_
      refine s_unguard2 (b := false) rfl rfl (by with_reducible rfl) rfl rfl ?_
      refine s_unguard2 (b := false) rfl rfl (by with_reducible rfl) rfl rfl ?_
      refine s_guard2 rfl rfl (by with_reducible rfl) ?_
      refine s_q (by (first | exact y_pickT rfl rfl | exact y_pickF rfl rfl)) rfl ?_
      refine s_q (by (first | exact y_pickT rfl rfl | exact y_pickF rfl rfl)) rfl ?_
      refine s_done ?_
      refine s_condF2 rfl (by with_reducible rfl) ?_
      refine s_skip ?_
      refine s_seq ?_
      refine s_region ?_
      refine s_q (y_assign rfl) rfl ?_
      refine s_done ?_
      refine J.emp (B := Sl 60 2 none 0 0 (([] : List LocD).flatMap encLoc)) (Sl.ofNil _ _) ?_
      exact s_return (R := LocRow _) ⟨_, _, rfl, rfl⟩ (res_tmp Try.results27 rfl)
theorem hasP_c {o : Int} (h : hasP o &&& 32 ≠ 0) : hasP o = 32 := (hasS_all (P := fun p _ _ => p &&& 32 ≠ 0 → p = 32) o (by decide) (fun _ _ _ => by decide) (by decide) (by decide) (by decide) (by decide) (by decide) (by decide) (fun _ _ _ => by decide)) h
theorem hasP_s {o : Int} (h : hasP o &&& 16 ≠ 0) (h1 : ¬ hasP o &&& 1 ≠ 0) : o = 16 := (hasS_all (P := fun p _ o => p &&& 16 ≠ 0 → ¬ p &&& 1 ≠ 0 → o = 16) o (by decide) (fun _ _ _ => by intro x; exact absurd rfl x) (by decide) (by decide) (by decide) (by decide) (by decide) (by decide) (fun _ _ _ => by intro x; exact absurd rfl x)) h h1
theorem refWrites_spec (w : World) (N : Nat → Prop) (m : MV) (A B : Option Addr) (c d : Nat) (i : InsD) (ho : Owns w [] N) :
    Ret Try.prog 25 [.agg (mval m A c B d).toArray, .agg (encIns i).toArray] w N (LocRow (writesL m.ret i)) := by
  refine ret_of_J cx Try.func25 rfl (Nat.le_of_ble_eq_true rfl) ho ?_
  refine s_seq ?_
  refine s_region ?_
  first | (refine s_box1 rfl rfl rfl (fun b1 => ?_)) | (refine s_boxA rfl rfl (fun b1 => ?_))
  change J _ _ _ (cb b1 24 (mval m A c B d) :: _) _
  first | (refine s_box1 rfl rfl rfl (fun b2 => ?_)) | (refine s_boxA rfl rfl (fun b2 => ?_))
  change J _ _ _ (cb b2 30 (encIns i) :: _) _
  refine s_q (y_assign rfl) rfl ?_
  refine s_done ?_
  refine s_seq ?_
  refine s_region ?_
  refine s_q (by (first | exact y_fieldAddrB rfl rfl rfl rfl rfl rfl | exact y_fieldAddr rfl rfl rfl rfl rfl rfl)) rfl ?_
  refine s_q (by (first | exact y_ld rfl rfl rfl (by rfl) | exact y_ldN rfl rfl rfl (by rfl) | exact y_ldK rfl rfl rfl rfl (by assumption) (by omega) | exact y_ldI rfl rfl rfl rfl (by assumption) (by omega) (by omega))) rfl ?_
  refine s_call (pre := []) (rem := _) rfl rfl tk (fun w N ho hl => refHas_spec w N i.op ho) rfl ?_
  rintro e L' ⟨rfl, rfl⟩
  try simp only [List.nil_append, List.cons_append, List.append_nil]
  refine s_q (y_assign rfl) rfl ?_
  refine s_done ?_
  refine s_seq ?_
  refine s_block ?_
  refine s_seq ?_
  refine s_region ?_
  refine s_q (y_move rfl) rfl ?_
  refine s_call (pre := []) (rem := _) rfl rfl tk (fun w N ho hl => in_spec w N (hasS i.op) 100 ho (by have := hasS_size i.op; omega)) rfl ?_
  rintro e L' ⟨rfl, rfl⟩
  try simp only [List.nil_append, List.cons_append, List.append_nil]
  rw [inS_d]
  refine s_q (y_assign rfl) rfl ?_
  refine s_done ?_
  refine s_cond rfl (fun h1 => ?_) (fun h1 => ?_)
  · have e : writesL m.ret i = [(false, i.dst)] := by
      unfold writesL
      rw [if_neg (fun x => by rw [hasP_c x] at h1; exact h1 rfl), if_pos h1]; rfl
    rw [e]
    refine s_seq ?_
    refine s_region ?_
    refine s_q (by (first | exact y_fieldAddrB rfl rfl rfl rfl rfl rfl | exact y_fieldAddr rfl rfl rfl rfl rfl rfl)) rfl ?_
    refine s_q (by (first | exact y_ld rfl rfl rfl (by rfl) | exact y_ldN rfl rfl rfl (by rfl) | exact y_ldK rfl rfl rfl rfl (by assumption) (by omega) | exact y_ldI rfl rfl rfl rfl (by assumption) (by omega) (by omega))) rfl ?_
    refine s_call (pre := []) (rem := _) rfl rfl tk (fun w N ho hl => reg_spec w N i.dst ho) rfl ?_
    rintro e L' ⟨rfl, rfl⟩
    try simp only [List.nil_append, List.cons_append, List.append_nil]
    refine s_bslice rfl rfl rfl rfl rfl rfl rfl rfl (fun b => ?_)
    change J _ _ _ (cb b 60 ([((false, i.dst) : LocD)].flatMap encLoc) :: _) _
    refine J.imp (B := Sl 60 2 (some ⟨b, 0, none⟩) 1 1 ([((false, i.dst) : LocD)].flatMap encLoc)) (fun h hh => Sl.ofCb rfl (by decide) hh) ?_
    refine s_q (y_assign rfl) rfl ?_
    refine s_done ?_
    exact s_return (R := LocRow _) ⟨_, _, rfl, rfl⟩ (res_tmp Try.results25 rfl)
  refine s_seq ?_
  refine s_region ?_
  refine s_q (by (first | exact y_fieldAddrB rfl rfl rfl rfl rfl rfl | exact y_fieldAddr rfl rfl rfl rfl rfl rfl)) rfl ?_
  refine s_q (by (first | exact y_ld rfl rfl rfl (by rfl) | exact y_ldN rfl rfl rfl (by rfl) | exact y_ldK rfl rfl rfl rfl (by assumption) (by omega) | exact y_ldI rfl rfl rfl rfl (by assumption) (by omega) (by omega))) rfl ?_
  refine s_q (by (first | exact y_eql rfl rfl | exact y_eqlB rfl rfl rfl)) rfl ?_
  refine s_q (y_assign rfl) rfl ?_
  refine s_done ?_
  refine s_cond rfl (fun h2 => ?_) (fun h2 => ?_)
  · have e : writesL m.ret i = [(true, i.imm)] := by simp [writesL, hasP, h2]
    rw [e]
    refine s_seq ?_
    refine s_region ?_
    refine s_q (by (first | exact y_fieldAddrB rfl rfl rfl rfl rfl rfl | exact y_fieldAddr rfl rfl rfl rfl rfl rfl)) rfl ?_
    refine s_q (by (first | exact y_ld rfl rfl rfl (by rfl) | exact y_ldN rfl rfl rfl (by rfl) | exact y_ldK rfl rfl rfl rfl (by assumption) (by omega) | exact y_ldI rfl rfl rfl rfl (by assumption) (by omega) (by omega))) rfl ?_
    refine s_q (y_build rfl rfl rfl rfl) rfl ?_
    refine s_bslice rfl rfl rfl rfl rfl rfl rfl rfl (fun b => ?_)
    change J _ _ _ (cb b 60 ([((true, i.imm) : LocD)].flatMap encLoc) :: _) _
    refine J.imp (B := Sl 60 2 (some ⟨b, 0, none⟩) 1 1 ([((true, i.imm) : LocD)].flatMap encLoc)) (fun h hh => Sl.ofCb rfl (by decide) hh) ?_
    refine s_q (y_assign rfl) rfl ?_
    refine s_done ?_
    exact s_return (R := LocRow _) ⟨_, _, rfl, rfl⟩ (res_tmp Try.results25 rfl)
  refine s_seq ?_
  refine s_region ?_
  refine s_q (y_move rfl) rfl ?_
  refine s_q (by (first | exact y_eqlStr rfl rfl | exact y_eql rfl rfl | exact y_eqlB rfl rfl rfl)) rfl ?_
  refine s_q (y_assign rfl) rfl ?_
  refine s_done ?_
  refine s_cond rfl (fun h3 => ?_) (fun h3 => ?_)
  · have e : writesL m.ret i = [(false, m.ret)] := by
      unfold writesL
      rw [if_pos ((hasS_c _).1 h3)]; rfl
    rw [e]
    refine s_seq ?_
    refine s_region ?_
    refine s_q (by (first | exact y_fieldAddrB rfl rfl rfl rfl rfl rfl | exact y_fieldAddr rfl rfl rfl rfl rfl rfl)) rfl ?_
    refine s_q (by (first | exact y_ld rfl rfl rfl (by rfl) | exact y_ldN rfl rfl rfl (by rfl) | exact y_ldK rfl rfl rfl rfl (by assumption) (by omega) | exact y_ldI rfl rfl rfl rfl (by assumption) (by omega) (by omega))) rfl ?_
    refine s_call (pre := []) (rem := _) rfl rfl tk (fun w N ho hl => reg_spec w N m.ret ho) rfl ?_
    rintro e L' ⟨rfl, rfl⟩
    try simp only [List.nil_append, List.cons_append, List.append_nil]
    refine s_bslice rfl rfl rfl rfl rfl rfl rfl rfl (fun b => ?_)
    change J _ _ _ (cb b 60 ([((false, m.ret) : LocD)].flatMap encLoc) :: _) _
    refine J.imp (B := Sl 60 2 (some ⟨b, 0, none⟩) 1 1 ([((false, m.ret) : LocD)].flatMap encLoc)) (fun h hh => Sl.ofCb rfl (by decide) hh) ?_
    refine s_q (y_assign rfl) rfl ?_
    refine s_done ?_
    exact s_return (R := LocRow _) ⟨_, _, rfl, rfl⟩ (res_tmp Try.results25 rfl)
  have e : writesL m.ret i = [] := by
    unfold writesL
    rw [if_neg (fun x => h3 ((hasS_c _).2 x)), if_neg h1, if_neg (fun x => h2 (hasP_s x h1))]
  rw [e]
  refine s_skip ?_
  refine s_endb ?_
  refine s_seq ?_
  refine s_region ?_
  refine s_q (y_assign rfl) rfl ?_
  refine s_done ?_
  refine J.emp (B := Sl 60 2 none 0 0 (([] : List LocD).flatMap encLoc)) (Sl.ofNil _ _) ?_
  exact s_return (R := LocRow _) ⟨_, _, rfl, rfl⟩ (res_tmp Try.results25 rfl)
def aL (i : InsD) : List LocD := if hasP i.op &&& 2 ≠ 0 then [(false, i.a)] else []
def bL (i : InsD) : List LocD := if hasP i.op &&& 4 ≠ 0 then [(false, i.b)] else []
def gL (i : InsD) : List LocD := if i.op = 17 then [(true, i.imm)] else []
theorem aL_T {i : InsD} (h : hasP i.op &&& 2 ≠ 0) : aL i = [(false, i.a)] := if_pos h
theorem aL_F {i : InsD} (h : ¬ hasP i.op &&& 2 ≠ 0) : aL i = [] := if_neg h
theorem bL_T {i : InsD} (h : hasP i.op &&& 4 ≠ 0) : bL i = [(false, i.b)] := if_pos h
theorem bL_F {i : InsD} (h : ¬ hasP i.op &&& 4 ≠ 0) : bL i = [] := if_neg h
theorem gL_T {i : InsD} (h : i.op = 17) : gL i = [(true, i.imm)] := if_pos h
theorem gL_F {i : InsD} (h : ¬ i.op = 17) : gL i = [] := if_neg h
theorem aL_len (i : InsD) : (aL i).length ≤ 1 := by unfold aL; split <;> simp
theorem bL_len (i : InsD) : (bL i).length ≤ 1 := by unfold bL; split <;> simp
theorem gL_len (i : InsD) : (gL i).length ≤ 1 := by unfold gL; split <;> simp
def preL (i : InsD) : List LocD := (if hasP i.op &&& 2 ≠ 0 then [(false, i.a)] else []) ++ (if hasP i.op &&& 4 ≠ 0 then [(false, i.b)] else []) ++ (if i.op = 17 then [(true, i.imm)] else [])
theorem preL_c {i : InsD} (h : hasP i.op &&& 32 ≠ 0) : preL i = [] := by
  have h1 := hasP_c h
  have h2 : i.op ≠ 17 := fun x => by rw [(op_get _).1 x] at h1; exact absurd h1 (by decide)
  unfold preL
  rw [h1, if_neg h2]; rfl
theorem preL_n {args : List Int} {i : InsD} (h : ¬ hasP i.op &&& 32 ≠ 0) : readsL args i = preL i := by
  unfold readsL preL
  rw [if_neg h]
  have key : ∀ (a b c : LocD), (if hasP i.op &&& 4 ≠ 0 then [a, b] else if hasP i.op &&& 2 ≠ 0 then [a] else if hasP i.op &&& 16 ≠ 0 then [c] else []) = ((if hasP i.op &&& 2 ≠ 0 then [a] else []) ++ (if hasP i.op &&& 4 ≠ 0 then [b] else [])) ++ (if i.op = 17 then [c] else []) := by
    intro a b c
    have h17 := op_get i.op
    revert h17
    refine hasS_all (P := fun p _ o => (o = 17 ↔ p = 17) → (if p &&& 4 ≠ 0 then [a, b] else if p &&& 2 ≠ 0 then [a] else if p &&& 16 ≠ 0 then [c] else []) = ((if p &&& 2 ≠ 0 then [a] else []) ++ (if p &&& 4 ≠ 0 then [b] else [])) ++ (if o = 17 then [c] else [])) i.op ?_ ?_ ?_ ?_ ?_ ?_ ?_ ?_ ?_ <;> intros <;> simp_all
  exact key (false, i.a) (false, i.b) (true, i.imm)
theorem refReads_spec (w : World) (N : Nat → Prop) (m : MV) (A B : Option Addr) (c d : Nat) (i : InsD) (ho : Owns w [] N) (ha : KI w N A m.args) (hla : m.args.length < 1000000000) :
    Ret Try.prog 23 [.agg (mval m A c B d).toArray, .agg (encIns i).toArray] w N (LocRow (readsL m.args i)) := by
  refine ret_of_J cx Try.func23 rfl (Nat.le_of_ble_eq_true rfl) ho ?_
  refine s_seq ?_
  refine s_region ?_
  first | (refine s_box1 rfl rfl rfl (fun b1 => ?_)) | (refine s_boxA rfl rfl (fun b1 => ?_))
  change J _ _ _ (cb b1 24 (mval m A c B d) :: _) _
  first | (refine s_box1 rfl rfl rfl (fun b2 => ?_)) | (refine s_boxA rfl rfl (fun b2 => ?_))
  change J _ _ _ (cb b2 30 (encIns i) :: _) _
  refine s_q (y_assign rfl) rfl ?_
  refine s_done ?_
  refine s_seq ?_
  refine s_region ?_
  refine s_q (by (first | exact y_fieldAddrB rfl rfl rfl rfl rfl rfl | exact y_fieldAddr rfl rfl rfl rfl rfl rfl)) rfl ?_
  refine s_q (by (first | exact y_ld rfl rfl rfl (by rfl) | exact y_ldN rfl rfl rfl (by rfl) | exact y_ldK rfl rfl rfl rfl (by assumption) (by omega) | exact y_ldI rfl rfl rfl rfl (by assumption) (by omega) (by omega))) rfl ?_
  refine s_call (pre := []) (rem := _) rfl rfl tk (fun w N ho hl => refHas_spec w N i.op ho) rfl ?_
  rintro e L' ⟨rfl, rfl⟩
  try simp only [List.nil_append, List.cons_append, List.append_nil]
  refine s_q (y_assign rfl) rfl ?_
  refine s_done ?_
  refine s_seq ?_
  refine s_region ?_
  refine s_q (y_assign rfl) rfl ?_
  refine s_done ?_
  refine s_seq ?_
  refine s_seq ?_
  refine s_region ?_
  refine s_q (y_move rfl) rfl ?_
  refine s_call (pre := []) (rem := _) rfl rfl tk (fun w N ho hl => in_spec w N (hasS i.op) 97 ho (by have := hasS_size i.op; omega)) rfl ?_
  rintro e L' ⟨rfl, rfl⟩
  try simp only [List.nil_append, List.cons_append, List.append_nil]
  rw [inS_a]
  refine J.emp (B := Sl 60 2 none 0 0 (([] : List LocD).flatMap encLoc)) (Sl.ofNil _ _) ?_
  refine s_done ?_
  refine s_joinV (σ := List LocD × Option Addr × Nat) (fun s => [(6, .slice s.2.1 s.1.length s.2.2)]) [Sl 60 2 none 0 0 (([] : List LocD).flatMap encLoc)] (fun s => [Sl 60 2 s.2.1 s.1.length s.2.2 (s.1.flatMap encLoc)]) (fun s => (s.1 = aL i)) [(2, _), (3, _), (5, _)] ⟨rfl, rfl, rfl, trivial⟩ tk (fun k' hr => ?_) ?_
  · refine s_cond rfl (fun h4 => ?_) (fun h4 => ?_)
    · refine s_region ?_
      refine s_q (y_move rfl) rfl ?_
      refine s_q (by (first | exact y_fieldAddrB rfl rfl rfl rfl rfl rfl | exact y_fieldAddr rfl rfl rfl rfl rfl rfl)) rfl ?_
      refine s_q (by (first | exact y_ld rfl rfl rfl (by rfl) | exact y_ldN rfl rfl rfl (by rfl) | exact y_ldK rfl rfl rfl rfl (by assumption) (by omega) | exact y_ldI rfl rfl rfl rfl (by assumption) (by omega) (by omega))) rfl ?_
      refine s_call (pre := []) (rem := _) rfl rfl tk (fun w N ho hl => reg_spec w N i.a ho) rfl ?_
      rintro e L' ⟨rfl, rfl⟩
      try simp only [List.nil_append, List.cons_append, List.append_nil]
      refine s_bslice rfl rfl rfl rfl rfl rfl rfl rfl (fun nb => ?_)
      refine s_append rfl rfl rfl rfl rfl rfl rfl rfl rfl (by omega) rfl (fun G' g' => ?_)
      change J _ _ _ (Sl 60 2 G' ([((false, i.a) : LocD)]).length g' ([((false, i.a) : LocD)].flatMap encLoc) :: _) _
      refine s_q (y_assign rfl) rfl ?_
      refine s_done ?_
      have hr' := hr ([(false, i.a)], G', g') (by dsimp only; rw [aL_T h4])
      try dsimp only [List.cons_append, List.nil_append, List.append_nil] at hr'
      exact J.to hr' ⟨rfl, rfl, rfl, rfl, trivial⟩ tk
    · refine s_skip ?_
      have hr' := hr ([], none, 0) (by dsimp only; rw [aL_F h4])
      try dsimp only [List.cons_append, List.nil_append, List.append_nil] at hr'
      exact J.to hr' ⟨rfl, rfl, rfl, rfl, trivial⟩ tk
  rintro ⟨l4, G4, g4⟩ hl4
  dsimp only [List.cons_append, List.nil_append] at hl4 ⊢
  have hn4 : l4.length ≤ 1 := by rw [hl4]; have := aL_len i; have := bL_len i; have := gL_len i; (try simp only [List.length_append]); omega
  refine s_seq ?_
  refine s_seq ?_
  refine s_region ?_
  refine s_q (y_move rfl) rfl ?_
  refine s_call (pre := []) (rem := _) rfl rfl tk (fun w N ho hl => in_spec w N (hasS i.op) 98 ho (by have := hasS_size i.op; omega)) rfl ?_
  rintro e L' ⟨rfl, rfl⟩
  try simp only [List.nil_append, List.cons_append, List.append_nil]
  rw [inS_b]
  refine s_done ?_
  refine s_joinV (σ := List LocD × Option Addr × Nat) (fun s => [(6, .slice s.2.1 s.1.length s.2.2)]) [Sl 60 2 G4 l4.length g4 (l4.flatMap encLoc)] (fun s => [Sl 60 2 s.2.1 s.1.length s.2.2 (s.1.flatMap encLoc)]) (fun s => (s.1 = aL i ++ bL i)) [(2, _), (3, _), (5, _)] ⟨rfl, rfl, rfl, trivial⟩ tk (fun k' hr => ?_) ?_
  · refine s_cond rfl (fun h6 => ?_) (fun h6 => ?_)
    · refine s_region ?_
      refine s_q (y_move rfl) rfl ?_
      refine s_q (by (first | exact y_fieldAddrB rfl rfl rfl rfl rfl rfl | exact y_fieldAddr rfl rfl rfl rfl rfl rfl)) rfl ?_
      refine s_q (by (first | exact y_ld rfl rfl rfl (by rfl) | exact y_ldN rfl rfl rfl (by rfl) | exact y_ldK rfl rfl rfl rfl (by assumption) (by omega) | exact y_ldI rfl rfl rfl rfl (by assumption) (by omega) (by omega))) rfl ?_
      refine s_call (pre := []) (rem := _) rfl rfl tk (fun w N ho hl => reg_spec w N i.b ho) rfl ?_
      rintro e L' ⟨rfl, rfl⟩
      try simp only [List.nil_append, List.cons_append, List.append_nil]
      refine s_bslice rfl rfl rfl rfl rfl rfl rfl rfl (fun nb => ?_)
      refine s_append rfl rfl rfl rfl rfl rfl rfl rfl rfl (by omega) rfl (fun G' g' => ?_)
      change J _ _ _ (Sl 60 2 G' (l4.length + 1) g' (l4.flatMap encLoc ++ encLoc (false, i.b)) :: _) _
      rw [show l4.length + 1 = (l4 ++ [((false, i.b) : LocD)]).length by simp, show l4.flatMap encLoc ++ encLoc (false, i.b) = (l4 ++ [((false, i.b) : LocD)]).flatMap encLoc by simp]
      refine s_q (y_assign rfl) rfl ?_
      refine s_done ?_
      have hr' := hr (l4 ++ [(false, i.b)], G', g') (by dsimp only; rw [bL_T h6, hl4])
      try dsimp only [List.cons_append, List.nil_append, List.append_nil] at hr'
      exact J.to hr' ⟨rfl, rfl, rfl, rfl, trivial⟩ tk
    · refine s_skip ?_
      have hr' := hr (l4, G4, g4) (by dsimp only; rw [bL_F h6, hl4, List.append_nil])
      try dsimp only [List.cons_append, List.nil_append, List.append_nil] at hr'
      exact J.to hr' ⟨rfl, rfl, rfl, rfl, trivial⟩ tk
  rintro ⟨l6, G6, g6⟩ hl6
  dsimp only [List.cons_append, List.nil_append] at hl6 ⊢
  have hn6 : l6.length ≤ 2 := by rw [hl6]; have := aL_len i; have := bL_len i; have := gL_len i; (try simp only [List.length_append]); omega
  refine s_seq ?_
  refine s_seq ?_
  refine s_region ?_
  refine s_q (by (first | exact y_fieldAddrB rfl rfl rfl rfl rfl rfl | exact y_fieldAddr rfl rfl rfl rfl rfl rfl)) rfl ?_
  refine s_q (by (first | exact y_ld rfl rfl rfl (by rfl) | exact y_ldN rfl rfl rfl (by rfl) | exact y_ldK rfl rfl rfl rfl (by assumption) (by omega) | exact y_ldI rfl rfl rfl rfl (by assumption) (by omega) (by omega))) rfl ?_
  refine s_q (by (first | exact y_eql rfl rfl | exact y_eqlB rfl rfl rfl)) rfl ?_
  refine s_done ?_
  refine s_joinV (σ := List LocD × Option Addr × Nat) (fun s => [(6, .slice s.2.1 s.1.length s.2.2)]) [Sl 60 2 G6 l6.length g6 (l6.flatMap encLoc)] (fun s => [Sl 60 2 s.2.1 s.1.length s.2.2 (s.1.flatMap encLoc)]) (fun s => (s.1 = aL i ++ bL i ++ gL i)) [(2, _), (3, _), (5, _)] ⟨rfl, rfl, rfl, trivial⟩ tk (fun k' hr => ?_) ?_
  · refine s_cond rfl (fun h8 => ?_) (fun h8 => ?_)
    · refine s_region ?_
      refine s_q (y_move rfl) rfl ?_
      refine s_q (by (first | exact y_fieldAddrB rfl rfl rfl rfl rfl rfl | exact y_fieldAddr rfl rfl rfl rfl rfl rfl)) rfl ?_
      refine s_q (by (first | exact y_ld rfl rfl rfl (by rfl) | exact y_ldN rfl rfl rfl (by rfl) | exact y_ldK rfl rfl rfl rfl (by assumption) (by omega) | exact y_ldI rfl rfl rfl rfl (by assumption) (by omega) (by omega))) rfl ?_
      refine s_q (y_build rfl rfl rfl rfl) rfl ?_
      refine s_bslice rfl rfl rfl rfl rfl rfl rfl rfl (fun nb => ?_)
      refine s_append rfl rfl rfl rfl rfl rfl rfl rfl rfl (by omega) rfl (fun G' g' => ?_)
      change J _ _ _ (Sl 60 2 G' (l6.length + 1) g' (l6.flatMap encLoc ++ encLoc (true, i.imm)) :: _) _
      rw [show l6.length + 1 = (l6 ++ [((true, i.imm) : LocD)]).length by simp, show l6.flatMap encLoc ++ encLoc (true, i.imm) = (l6 ++ [((true, i.imm) : LocD)]).flatMap encLoc by simp]
      refine s_q (y_assign rfl) rfl ?_
      refine s_done ?_
      have hr' := hr (l6 ++ [(true, i.imm)], G', g') (by dsimp only; rw [gL_T h8, hl6])
      try dsimp only [List.cons_append, List.nil_append, List.append_nil] at hr'
      exact J.to hr' ⟨rfl, rfl, rfl, rfl, trivial⟩ tk
    · refine s_skip ?_
      have hr' := hr (l6, G6, g6) (by dsimp only; rw [gL_F h8, hl6, List.append_nil])
      try dsimp only [List.cons_append, List.nil_append, List.append_nil] at hr'
      exact J.to hr' ⟨rfl, rfl, rfl, rfl, trivial⟩ tk
  rintro ⟨l8, G8, g8⟩ hl8
  dsimp only [List.cons_append, List.nil_append] at hl8 ⊢
  have hn8 : l8.length ≤ 3 := by rw [hl8]; have := aL_len i; have := bL_len i; have := gL_len i; (try simp only [List.length_append]); omega
  have h8p : l8 = preL i := hl8
  refine s_seq ?_
  refine s_seq ?_
  refine s_region ?_
  refine s_q (y_assign rfl) rfl ?_
  refine s_done ?_
  refine s_block ?_
  refine s_loopV (σ := Nat × List LocD × Option Addr × Nat) (fun s => [(7, .int .i64 s.1), (6, .slice s.2.2.1 s.2.1.length s.2.2.2)]) (fun s => [Sl 60 2 s.2.2.1 s.2.1.length s.2.2.2 (s.2.1.flatMap encLoc)]) (fun s => (s.1 ≤ m.args.length) ∧ (s.2.1 = l8 ++ regsL (m.args.take s.1)) ∧ (s.1 = 0 ∨ ((hasS i.op).data.toList = [99] ∧ (s.1 : Int) ≤ i.many))) (fun s => m.args.length - s.1) (0, l8, G8, g8) [(2, _), (3, _), (5, _)] ⟨rfl, rfl, rfl, trivial⟩ ⟨rfl, rfl, trivial⟩ tk ⟨Nat.zero_le _, by simp [regsL], .inl rfl⟩ ?_
  rintro ⟨k, l, G, g⟩ ⟨hk, hl, hc⟩
  try dsimp only [List.cons_append, List.nil_append, List.append_nil] at hk hl hc ⊢
  have hll : l.length ≤ m.args.length + 3 := by rw [hl]; simp [regsL]; omega
  have fin : ¬ ((hasS i.op).data.toList = [99] ∧ (k : Int) < i.many ∧ (k : Int) < m.args.length) → l = readsL m.args i := fun x => by
    by_cases hC : (hasS i.op).data.toList = [99]
    · have h32 := (hasS_c _).1 hC
      have hp : l8 = [] := by rw [h8p, preL_c h32]
      have hk2 : (max (min i.many m.args.length) 0).toNat = k := by
        have : ¬ ((k : Int) < i.many ∧ (k : Int) < m.args.length) := fun y => x ⟨hC, y⟩
        rcases hc with rfl | ⟨_, hc⟩ <;> omega
      unfold readsL
      rw [if_pos h32, hk2, hl, hp]; rfl
    · have h32 : ¬ hasP i.op &&& 32 ≠ 0 := fun y => hC ((hasS_c _).2 y)
      have hk0 : k = 0 := by
        rcases hc with rfl | ⟨hc, _⟩
        · rfl
        · exact absurd hc hC
      rw [hl, hk0, h8p, preL_n h32]; simp [regsL]
  refine s_seq ?_
  refine s_seq ?_
  by_cases hC : (hasS i.op).data.toList = [99]
  · by_cases hm : (k : Int) < i.many
    · by_cases hn : (k : Int) < m.args.length
      · refine s_region ?_
        refine s_q (y_move rfl) rfl ?_
        refine s_q (by (first | exact y_as (y_eqlStr rfl rfl) (congrArg Value.bool (decide_eq_true hC)) | exact y_eql rfl rfl | exact y_eqlB rfl rfl rfl)) rfl ?_
        refine s_q (y_move rfl) rfl ?_
        refine s_guard2 rfl rfl (by with_reducible rfl) ?_
        refine s_q (y_move rfl) rfl ?_
        refine s_guard2 rfl rfl (by with_reducible rfl) ?_
        refine s_q (by (first | exact y_fieldAddrB rfl rfl rfl rfl rfl rfl | exact y_fieldAddr rfl rfl rfl rfl rfl rfl)) rfl ?_
        refine s_guard2 rfl rfl (by with_reducible rfl) ?_
        refine s_q (by (first | exact y_ldK rfl rfl rfl rfl ha (by omega) | exact y_ld rfl rfl rfl (by rfl) | exact y_ldN rfl rfl rfl (by rfl) | exact y_ldK rfl rfl rfl rfl (by assumption) (by omega) | exact y_ldI rfl rfl rfl rfl (by assumption) (by omega) (by omega))) rfl ?_
        refine s_guard2 rfl rfl (by with_reducible rfl) ?_
        refine s_q (by (first | exact y_as (y_lss rfl rfl) (congrArg Value.bool (decide_eq_true hm)) | exact y_as (y_lss rfl rfl) (congrArg Value.bool (decide_eq_true hn)) | exact y_lss rfl rfl)) rfl ?_
        refine s_q (by (first | exact y_pickT rfl rfl | exact y_pickF rfl rfl)) rfl ?_
        refine s_q (y_move rfl) rfl ?_
        refine s_guard2 rfl rfl (by with_reducible rfl) ?_
        refine s_q (y_move rfl) rfl ?_
        refine s_guard2 rfl rfl (by with_reducible rfl) ?_
        refine s_q (by (first | exact y_fieldAddrB rfl rfl rfl rfl rfl rfl | exact y_fieldAddr rfl rfl rfl rfl rfl rfl)) rfl ?_
        refine s_guard2 rfl rfl (by with_reducible rfl) ?_
        refine s_q (by (first | exact y_ldK rfl rfl rfl rfl ha (by omega) | exact y_ld rfl rfl rfl (by rfl) | exact y_ldN rfl rfl rfl (by rfl) | exact y_ldK rfl rfl rfl rfl (by assumption) (by omega) | exact y_ldI rfl rfl rfl rfl (by assumption) (by omega) (by omega))) rfl ?_
        refine s_guard2 rfl rfl (by with_reducible rfl) ?_
        refine s_q (y_lenS rfl rfl rfl) rfl ?_
        refine s_guard2 rfl rfl (by with_reducible rfl) ?_
        refine s_q (by (first | exact y_as (y_lss rfl rfl) (congrArg Value.bool (decide_eq_true hm)) | exact y_as (y_lss rfl rfl) (congrArg Value.bool (decide_eq_true hn)) | exact y_lss rfl rfl)) rfl ?_
        refine s_q (by (first | exact y_pickT rfl rfl | exact y_pickF rfl rfl)) rfl ?_
        refine s_done ?_
        refine s_condT2 rfl (by with_reducible rfl) ?_
        refine s_skip ?_
        refine s_seq ?_
        refine s_block ?_
        refine s_region ?_
        refine s_q (y_move rfl) rfl ?_
        refine s_q (by (first | exact y_fieldAddrB rfl rfl rfl rfl rfl rfl | exact y_fieldAddr rfl rfl rfl rfl rfl rfl)) rfl ?_
        refine s_q (by (first | exact y_ldK rfl rfl rfl rfl ha (by omega) | exact y_ld rfl rfl rfl (by rfl) | exact y_ldN rfl rfl rfl (by rfl) | exact y_ldK rfl rfl rfl rfl (by assumption) (by omega) | exact y_ldI rfl rfl rfl rfl (by assumption) (by omega) (by omega))) rfl ?_
        refine s_q (y_move rfl) rfl ?_
        refine s_q (by (first | exact y_ixI rfl rfl rfl rfl rfl ha rfl (by omega) (by omega) | exact y_ixI rfl rfl rfl rfl rfl (by assumption) rfl (by omega) (by omega))) rfl ?_
        refine s_q (by (first | exact y_ldK rfl rfl rfl rfl ha (by omega) | exact y_ld rfl rfl rfl (by rfl) | exact y_ldN rfl rfl rfl (by rfl) | exact y_ldK rfl rfl rfl rfl (by assumption) (by omega) | exact y_ldI rfl rfl rfl rfl (by assumption) (by omega) (by omega))) rfl ?_
        refine s_call (pre := []) (rem := _) rfl rfl tk (fun w N ho hl => reg_spec w N (m.args.getD k 0) ho) rfl ?_
        rintro e L' ⟨rfl, rfl⟩
        try simp only [List.nil_append, List.cons_append, List.append_nil]
        refine s_bslice rfl rfl rfl rfl rfl rfl rfl rfl (fun nb => ?_)
        refine s_append rfl rfl rfl rfl rfl rfl rfl rfl rfl (by omega) rfl (fun G' g' => ?_)
        change J _ _ _ (Sl 60 2 G' (l.length + 1) g' (l.flatMap encLoc ++ encLoc (false, m.args.getD k 0)) :: _) _
        rw [show l.length + 1 = (l ++ [((false, m.args.getD k 0) : LocD)]).length by simp, show l.flatMap encLoc ++ encLoc (false, m.args.getD k 0) = (l ++ [((false, m.args.getD k 0) : LocD)]).flatMap encLoc by simp]
        refine s_q (y_assign rfl) rfl ?_
        refine s_done ?_
        refine s_endb ?_
        refine s_region ?_
        refine s_q (y_move rfl) rfl ?_
        refine s_q (y_add rfl rfl (by omega)) rfl ?_
        refine s_q (y_assign rfl) rfl ?_
        refine s_done ?_
        refine s_inv (k + 1, l ++ [(false, m.args.getD k 0)], G', g') ⟨(by (try dsimp only); omega), by dsimp only; rw [regsL_snoc (by omega), hl, List.append_assoc], .inr ⟨hC, by dsimp only; omega⟩⟩ (by (try dsimp only); omega) ⟨rfl, rfl, rfl, rfl, rfl, trivial⟩ tk
      · refine s_region ?_
        refine s_q (y_move rfl) rfl ?_
        refine s_q (by (first | exact y_as (y_eqlStr rfl rfl) (congrArg Value.bool (decide_eq_true hC)) | exact y_eql rfl rfl | exact y_eqlB rfl rfl rfl)) rfl ?_
        refine s_q (y_move rfl) rfl ?_
        refine s_guard2 rfl rfl (by with_reducible rfl) ?_
        refine s_q (y_move rfl) rfl ?_
        refine s_guard2 rfl rfl (by with_reducible rfl) ?_
        refine s_q (by (first | exact y_fieldAddrB rfl rfl rfl rfl rfl rfl | exact y_fieldAddr rfl rfl rfl rfl rfl rfl)) rfl ?_
        refine s_guard2 rfl rfl (by with_reducible rfl) ?_
        refine s_q (by (first | exact y_ld rfl rfl rfl (by rfl) | exact y_ldN rfl rfl rfl (by rfl) | exact y_ldK rfl rfl rfl rfl (by assumption) (by omega) | exact y_ldI rfl rfl rfl rfl (by assumption) (by omega) (by omega))) rfl ?_
        refine s_guard2 rfl rfl (by with_reducible rfl) ?_
        refine s_q (by (first | exact y_as (y_lss rfl rfl) (congrArg Value.bool (decide_eq_true hm)) | exact y_as (y_lss rfl rfl) (congrArg Value.bool (decide_eq_false hn)) | exact y_lss rfl rfl)) rfl ?_
        refine s_q (by (first | exact y_pickT rfl rfl | exact y_pickF rfl rfl)) rfl ?_
        refine s_q (y_move rfl) rfl ?_
        refine s_guard2 rfl rfl (by with_reducible rfl) ?_
        refine s_q (y_move rfl) rfl ?_
        refine s_guard2 rfl rfl (by with_reducible rfl) ?_
        refine s_q (by (first | exact y_fieldAddrB rfl rfl rfl rfl rfl rfl | exact y_fieldAddr rfl rfl rfl rfl rfl rfl)) rfl ?_
        refine s_guard2 rfl rfl (by with_reducible rfl) ?_
        refine s_q (by (first | exact y_ld rfl rfl rfl (by rfl) | exact y_ldN rfl rfl rfl (by rfl) | exact y_ldK rfl rfl rfl rfl (by assumption) (by omega) | exact y_ldI rfl rfl rfl rfl (by assumption) (by omega) (by omega))) rfl ?_
        refine s_guard2 rfl rfl (by with_reducible rfl) ?_
        refine s_q (y_lenS rfl rfl rfl) rfl ?_
        refine s_guard2 rfl rfl (by with_reducible rfl) ?_
        refine s_q (by (first | exact y_as (y_lss rfl rfl) (congrArg Value.bool (decide_eq_true hm)) | exact y_as (y_lss rfl rfl) (congrArg Value.bool (decide_eq_false hn)) | exact y_lss rfl rfl)) rfl ?_
        refine s_q (by (first | exact y_pickT rfl rfl | exact y_pickF rfl rfl)) rfl ?_
        refine s_done ?_
        refine s_condF2 rfl (by with_reducible rfl) ?_
        refine s_exit rfl ?_
        refine s_seq ?_
        refine s_region ?_
        refine s_q (y_move rfl) rfl ?_
        refine s_q (y_assign rfl) rfl ?_
        refine s_done ?_
        have e := fin (fun x => hn x.2.2)
        subst e
        exact s_return (R := LocRow _) ⟨G, g, rfl, rfl⟩ (res_tmp Try.results23 rfl)
    · refine s_region ?_
      refine s_q (y_move rfl) rfl ?_
      refine s_q (by (first | exact y_as (y_eqlStr rfl rfl) (congrArg Value.bool (decide_eq_true hC)) | exact y_eql rfl rfl | exact y_eqlB rfl rfl rfl)) rfl ?_
      refine s_q (y_move rfl) rfl ?_
      refine s_guard2 rfl rfl (by with_reducible rfl) ?_
      refine s_q (y_move rfl) rfl ?_
      refine s_guard2 rfl rfl (by with_reducible rfl) ?_
      refine s_q (by (first | exact y_fieldAddrB rfl rfl rfl rfl rfl rfl | exact y_fieldAddr rfl rfl rfl rfl rfl rfl)) rfl ?_
      refine s_guard2 rfl rfl (by with_reducible rfl) ?_
      refine s_q (by (first | exact y_ld rfl rfl rfl (by rfl) | exact y_ldN rfl rfl rfl (by rfl) | exact y_ldK rfl rfl rfl rfl (by assumption) (by omega) | exact y_ldI rfl rfl rfl rfl (by assumption) (by omega) (by omega))) rfl ?_
      refine s_guard2 rfl rfl (by with_reducible rfl) ?_
      refine s_q (by (first | exact y_as (y_lss rfl rfl) (congrArg Value.bool (decide_eq_false hm)) | exact y_lss rfl rfl)) rfl ?_
      refine s_q (by (first | exact y_pickT rfl rfl | exact y_pickF rfl rfl)) rfl ?_
      refine s_q (y_move rfl) rfl ?_
      refine s_unguard2 (b := false) rfl rfl (by with_reducible rfl) rfl rfl ?_
      refine s_unguard2 (b := false) rfl rfl (by with_reducible rfl) rfl rfl ?_
      refine s_unguard2 (b := false) rfl rfl (by with_reducible rfl) rfl rfl ?_
      refine s_unguard2 (b := false) rfl rfl (by with_reducible rfl) rfl rfl ?_
      refine s_unguard2 (b := false) rfl rfl (by with_reducible rfl) rfl rfl ?_
      refine s_q (by (first | exact y_pickT rfl rfl | exact y_pickF rfl rfl)) rfl ?_
      refine s_done ?_
      refine s_condF2 rfl (by with_reducible rfl) ?_
      refine s_exit rfl ?_
      refine s_seq ?_
      refine s_region ?_
      refine s_q (y_move rfl) rfl ?_
      refine s_q (y_assign rfl) rfl ?_
      refine s_done ?_
      have e := fin (fun x => hm x.2.1)
      subst e
      exact s_return (R := LocRow _) ⟨G, g, rfl, rfl⟩ (res_tmp Try.results23 rfl)
  · refine s_region ?_
    refine s_q (y_move rfl) rfl ?_
    refine s_q (by (first | exact y_as (y_eqlStr rfl rfl) (congrArg Value.bool (decide_eq_false hC)) | exact y_eql rfl rfl | exact y_eqlB rfl rfl rfl)) rfl ?_
    refine s_q (y_move rfl) rfl ?_
    refine s_unguard2 (b := false) rfl rfl (by with_reducible rfl) rfl rfl ?_
    refine s_unguard2 (b := false) rfl rfl (by with_reducible rfl) rfl rfl ?_
    refine s_unguard2 (b := false) rfl rfl (by with_reducible rfl) rfl rfl ?_
    refine s_unguard2 (b := false) rfl rfl (by with_reducible rfl) rfl rfl ?_
    refine s_q (by (first | exact y_pickT rfl rfl | exact y_pickF rfl rfl)) rfl ?_
    refine s_q (y_move rfl) rfl ?_
    refine s_unguard2 (b := false) rfl rfl (by with_reducible rfl) rfl rfl ?_
    refine s_unguard2 (b := false) rfl rfl (by with_reducible rfl) rfl rfl ?_
    refine s_unguard2 (b := false) rfl rfl (by with_reducible rfl) rfl rfl ?_
    refine s_unguard2 (b := false) rfl rfl (by with_reducible rfl) rfl rfl ?_
    refine s_unguard2 (b := false) rfl rfl (by with_reducible rfl) rfl rfl ?_
    refine s_q (by (first | exact y_pickT rfl rfl | exact y_pickF rfl rfl)) rfl ?_
    refine s_done ?_
    refine s_condF2 rfl (by with_reducible rfl) ?_
    refine s_exit rfl ?_
    refine s_seq ?_
    refine s_region ?_
    refine s_q (y_move rfl) rfl ?_
    refine s_q (y_assign rfl) rfl ?_
    refine s_done ?_
    have e := fin (fun x => hC x.1)
    subst e
    exact s_return (R := LocRow _) ⟨G, g, rfl, rfl⟩ (res_tmp Try.results23 rfl)
end Go.Proofs.Ytgpebcfeeagoaaa
