/- Layer 6 (mir), the document's: the first error of an end; of a target. -/
import Derived.Test.YtgpebcfeeagoaaaMirV
import Derived.Test.YtgpebcfeeagoaaaMirR
import Derived.Test.YtgpebcfeeagoaaaEEc
import Derived.Test.YtgpebcfeeagoaaaEEb
set_option linter.unusedVariables false
set_option linter.unusedSimpArgs false
namespace Go.Proofs.Ytgpebcfeeagoaaa
open Go Go.E
set_option maxRecDepth 4000
set_option maxHeartbeats 1000000
theorem refTerm_spec (w : World) (N : Nat → Prop) (m : MV) (A B : Option Addr) (c d : Nat) (n : Int) (b : BlkD) (ho : Owns w [] N) (hr : 1 ≤ m.regs) (hr2 : m.regs ≤ 64) (hn : 1 ≤ n) (hn2 : n ≤ 200) :
    Ret Try.prog 44 [.agg (mval m A c B d).toArray, .int .i64 n, .agg #[.int .i64 b.kind, .int .i64 b.a, .int .i64 b.t0, .int .i64 b.t1]] w N fun v L => v = .int .i64 (termE m.regs m.ret n b) ∧ L = [] := by
  obtain ⟨bA, bc, ins, kind, a, t0, t1⟩ := b
  dsimp only
  refine ret_of_J cx Try.func44 rfl (Nat.le_of_ble_eq_true rfl) ho ?_
  refine s_seq ?_
  refine s_region ?_
  first | (refine s_box1 rfl rfl rfl (fun b1 => ?_)) | (refine s_boxA rfl rfl (fun b1 => ?_))
  change J _ _ _ (cb b1 24 (mval m A c B d) :: _) _
  first | (refine s_box1 rfl rfl rfl (fun b2 => ?_)) | (refine s_boxA rfl rfl (fun b2 => ?_))
  change J _ _ _ (cb b2 40 [.int .i64 kind, .int .i64 a, .int .i64 t0, .int .i64 t1] :: _) _
  refine s_q (y_assign rfl) rfl ?_
  refine s_done ?_
  refine s_seq ?_
  refine s_seq ?_
  refine s_region ?_
  refine s_q (by (first | exact y_fieldAddrB rfl rfl rfl rfl rfl rfl | exact y_fieldAddr rfl rfl rfl rfl rfl rfl)) rfl ?_
  refine s_q (by (first | exact y_ldN rfl rfl rfl (by rfl) | exact y_ld rfl rfl rfl (by rfl) | exact y_ldN rfl rfl rfl (by rfl) | exact y_ldK rfl rfl rfl rfl (by assumption) (by omega) | exact y_ldI rfl rfl rfl rfl (by assumption) (by omega) (by omega))) rfl ?_
  refine s_done ?_
  refine s_block ?_
  refine s_seq ?_
  refine s_region ?_
  refine s_q (by (first | exact y_eql rfl rfl | exact y_eqlB rfl rfl rfl)) rfl ?_
  refine s_q (y_assign rfl) rfl ?_
  refine s_done ?_
  first | refine J.split (t := 10) rfl (fun c1 => ?_) (fun c1 => ?_) | refine J.splitb (t := 10) rfl (fun c1 => ?_) (fun c1 => ?_)
  · skip
    first | refine J.known (t := 9) (b := true) rfl (decide_eq_true c1) ?_ | refine J.known (t := 9) (b := true) rfl c1 ?_
    refine s_condT rfl ?_
    refine s_seq ?_
    refine s_region ?_
    refine s_q (by (first | exact y_fieldAddrB rfl rfl rfl rfl rfl rfl | exact y_fieldAddr rfl rfl rfl rfl rfl rfl)) rfl ?_
    refine s_q (by (first | exact y_ldN rfl rfl rfl (by rfl) | exact y_ld rfl rfl rfl (by rfl) | exact y_ldN rfl rfl rfl (by rfl) | exact y_ldK rfl rfl rfl rfl (by assumption) (by omega) | exact y_ldI rfl rfl rfl rfl (by assumption) (by omega) (by omega))) rfl ?_
    refine s_q (by (first | exact y_neqArr2 3 (by kernel_rfl) rfl rfl | exact y_neq rfl rfl | exact y_neqB rfl rfl rfl)) rfl ?_
    refine s_q (y_move rfl) rfl ?_
    first | refine J.split (t := 13) rfl (fun c2 => ?_) (fun c2 => ?_) | refine J.splitb (t := 13) rfl (fun c2 => ?_) (fun c2 => ?_)
    · skip
      first | refine J.known (t := 14) (b := true) rfl (decide_eq_true c2) ?_ | refine J.known (t := 14) (b := true) rfl c2 ?_
      refine s_unguard2 (b := true) rfl rfl rfl rfl rfl ?_
      refine s_unguard2 (b := true) rfl rfl rfl rfl rfl ?_
      refine s_unguard2 (b := true) rfl rfl rfl rfl rfl ?_
      refine s_unguard2 (b := true) rfl rfl rfl rfl rfl ?_
      refine s_q (y_pickT rfl rfl) rfl ?_
      refine s_done ?_
      refine s_condT rfl ?_
      refine s_seq ?_
      refine s_region ?_
      refine s_q (y_assign rfl) rfl ?_
      refine s_done ?_
      exact s_return ⟨(by (try simp only [termE, inR] at *); grind), rfl⟩ (res_tmp Try.results44 rfl)
    first | refine J.known (t := 14) (b := false) rfl (decide_eq_false c2) ?_ | refine J.known (t := 14) (b := false) rfl c2 ?_
    refine s_guard rfl rfl ?_
    refine s_q (by (first | exact y_fieldAddrB rfl rfl rfl rfl rfl rfl | exact y_fieldAddr rfl rfl rfl rfl rfl rfl)) rfl ?_
    refine s_guard rfl rfl ?_
    refine s_q (by (first | exact y_indexAddrA rfl rfl rfl rfl rfl (by omega) (by omega) | exact y_ixI rfl rfl rfl rfl rfl (by assumption) rfl (by omega) (by omega))) rfl ?_
    refine s_guard rfl rfl ?_
    refine s_q (by (first | exact y_ldN rfl rfl rfl (by rfl) | exact y_ld rfl rfl rfl (by rfl) | exact y_ldN rfl rfl rfl (by rfl) | exact y_ldK rfl rfl rfl rfl (by assumption) (by omega) | exact y_ldI rfl rfl rfl rfl (by assumption) (by omega) (by omega))) rfl ?_
    refine s_guard rfl rfl ?_
    refine s_q (by (first | exact y_neqArr2 3 (by kernel_rfl) rfl rfl | exact y_neq rfl rfl | exact y_neqB rfl rfl rfl)) rfl ?_
    refine s_q (y_pickF rfl rfl) rfl ?_
    refine s_done ?_
    first | refine J.split (t := 18) rfl (fun c3 => ?_) (fun c3 => ?_) | refine J.splitb (t := 18) rfl (fun c3 => ?_) (fun c3 => ?_)
    · skip
      first | refine J.known (t := 19) (b := true) rfl (decide_eq_true c3) ?_ | refine J.known (t := 19) (b := true) rfl c3 ?_
      refine s_condT rfl ?_
      refine s_seq ?_
      refine s_region ?_
      refine s_q (y_assign rfl) rfl ?_
      refine s_done ?_
      exact s_return ⟨(by (try simp only [termE, inR] at *); grind), rfl⟩ (res_tmp Try.results44 rfl)
    first | refine J.known (t := 19) (b := false) rfl (decide_eq_false c3) ?_ | refine J.known (t := 19) (b := false) rfl c3 ?_
    refine s_condF rfl ?_
    refine s_skip ?_
    refine s_endb ?_
    refine s_seq ?_
    refine s_seq ?_
    refine s_region ?_
    refine s_q (by (first | exact y_fieldAddrB rfl rfl rfl rfl rfl rfl | exact y_fieldAddr rfl rfl rfl rfl rfl rfl)) rfl ?_
    refine s_q (by (first | exact y_indexAddrA rfl rfl rfl rfl rfl (by omega) (by omega) | exact y_ixI rfl rfl rfl rfl rfl (by assumption) rfl (by omega) (by omega))) rfl ?_
    refine s_q (by (first | exact y_ldN rfl rfl rfl (by rfl) | exact y_ld rfl rfl rfl (by rfl) | exact y_ldN rfl rfl rfl (by rfl) | exact y_ldK rfl rfl rfl rfl (by assumption) (by omega) | exact y_ldI rfl rfl rfl rfl (by assumption) (by omega) (by omega))) rfl ?_
    refine s_q (y_move rfl) rfl ?_
    refine s_q (y_sub rfl rfl (by omega)) rfl ?_
    refine s_call (pre := []) (rem := _) rfl rfl tk (fun w N ho hl => within_spec w N _ _ _ ho) rfl ?_
    rintro e L' ⟨rfl, rfl⟩
    try simp only [List.nil_append, List.cons_append, List.append_nil]
    refine s_q (by (first | exact y_notT rfl | exact y_notF rfl | exact y_notp rfl | exact y_notb rfl)) rfl ?_
    refine s_done ?_
    first | refine J.split (t := 68) rfl (fun c4 => ?_) (fun c4 => ?_) | refine J.splitb (t := 68) rfl (fun c4 => ?_) (fun c4 => ?_)
    · skip
      first | refine J.known (t := 69) (b := false) rfl (decide_eq_false (not_not_intro c4)) ?_ | refine J.known (t := 69) (b := false) rfl (congrArg not c4) ?_
      refine s_condF rfl ?_
      refine s_skip ?_
      refine s_seq ?_
      refine s_region ?_
      refine s_q (y_assign rfl) rfl ?_
      refine s_done ?_
      exact s_return ⟨(by (try simp only [termE, inR] at *); grind), rfl⟩ (res_tmp Try.results44 rfl)
    first | refine J.known (t := 69) (b := true) rfl (decide_eq_true c4) ?_ | refine J.known (t := 69) (b := true) rfl (congrArg not c4) ?_
    refine s_condT rfl ?_
    refine s_seq ?_
    refine s_region ?_
    refine s_q (y_assign rfl) rfl ?_
    refine s_done ?_
    exact s_return ⟨(by (try simp only [termE, inR] at *); grind), rfl⟩ (res_tmp Try.results44 rfl)
  first | refine J.known (t := 9) (b := false) rfl (decide_eq_false c1) ?_ | refine J.known (t := 9) (b := false) rfl c1 ?_
  refine s_condF rfl ?_
  refine s_seq ?_
  refine s_region ?_
  refine s_q (by (first | exact y_eql rfl rfl | exact y_eqlB rfl rfl rfl)) rfl ?_
  refine s_q (y_assign rfl) rfl ?_
  refine s_done ?_
  first | refine J.split (t := 21) rfl (fun c2 => ?_) (fun c2 => ?_) | refine J.splitb (t := 21) rfl (fun c2 => ?_) (fun c2 => ?_)
  · skip
    first | refine J.known (t := 20) (b := true) rfl (decide_eq_true c2) ?_ | refine J.known (t := 20) (b := true) rfl c2 ?_
    refine s_condT rfl ?_
    refine s_seq ?_
    refine s_seq ?_
    refine s_region ?_
    refine s_q (by (first | exact y_fieldAddrB rfl rfl rfl rfl rfl rfl | exact y_fieldAddr rfl rfl rfl rfl rfl rfl)) rfl ?_
    refine s_q (by (first | exact y_ldN rfl rfl rfl (by rfl) | exact y_ld rfl rfl rfl (by rfl) | exact y_ldN rfl rfl rfl (by rfl) | exact y_ldK rfl rfl rfl rfl (by assumption) (by omega) | exact y_ldI rfl rfl rfl rfl (by assumption) (by omega) (by omega))) rfl ?_
    refine s_q (by (first | exact y_fieldAddrB rfl rfl rfl rfl rfl rfl | exact y_fieldAddr rfl rfl rfl rfl rfl rfl)) rfl ?_
    refine s_q (by (first | exact y_ldN rfl rfl rfl (by rfl) | exact y_ld rfl rfl rfl (by rfl) | exact y_ldN rfl rfl rfl (by rfl) | exact y_ldK rfl rfl rfl rfl (by assumption) (by omega) | exact y_ldI rfl rfl rfl rfl (by assumption) (by omega) (by omega))) rfl ?_
    refine s_q (y_sub rfl rfl (by omega)) rfl ?_
    refine s_call (pre := []) (rem := _) rfl rfl tk (fun w N ho hl => within_spec w N _ _ _ ho) rfl ?_
    rintro e L' ⟨rfl, rfl⟩
    try simp only [List.nil_append, List.cons_append, List.append_nil]
    refine s_q (by (first | exact y_notT rfl | exact y_notF rfl | exact y_notp rfl | exact y_notb rfl)) rfl ?_
    refine s_done ?_
    first | refine J.split (t := 27) rfl (fun c3 => ?_) (fun c3 => ?_) | refine J.splitb (t := 27) rfl (fun c3 => ?_) (fun c3 => ?_)
    · skip
      first | refine J.known (t := 28) (b := false) rfl (decide_eq_false (not_not_intro c3)) ?_ | refine J.known (t := 28) (b := false) rfl (congrArg not c3) ?_
      refine s_condF rfl ?_
      refine s_skip ?_
      refine s_seq ?_
      refine s_region ?_
      refine s_q (by (first | exact y_fieldAddrB rfl rfl rfl rfl rfl rfl | exact y_fieldAddr rfl rfl rfl rfl rfl rfl)) rfl ?_
      refine s_q (by (first | exact y_indexAddrA rfl rfl rfl rfl rfl (by omega) (by omega) | exact y_ixI rfl rfl rfl rfl rfl (by assumption) rfl (by omega) (by omega))) rfl ?_
      refine s_q (by (first | exact y_ldN rfl rfl rfl (by rfl) | exact y_ld rfl rfl rfl (by rfl) | exact y_ldN rfl rfl rfl (by rfl) | exact y_ldK rfl rfl rfl rfl (by assumption) (by omega) | exact y_ldI rfl rfl rfl rfl (by assumption) (by omega) (by omega))) rfl ?_
      refine s_q (y_move rfl) rfl ?_
      refine s_q (y_sub rfl rfl (by omega)) rfl ?_
      refine s_call (pre := []) (rem := _) rfl rfl tk (fun w N ho hl => within_spec w N _ _ _ ho) rfl ?_
      rintro e L' ⟨rfl, rfl⟩
      try simp only [List.nil_append, List.cons_append, List.append_nil]
      refine s_q (by (first | exact y_notT rfl | exact y_notF rfl | exact y_notp rfl | exact y_notb rfl)) rfl ?_
      refine s_done ?_
      first | refine J.split (t := 34) rfl (fun c4 => ?_) (fun c4 => ?_) | refine J.splitb (t := 34) rfl (fun c4 => ?_) (fun c4 => ?_)
      · skip
        first | refine J.known (t := 35) (b := false) rfl (decide_eq_false (not_not_intro c4)) ?_ | refine J.known (t := 35) (b := false) rfl (congrArg not c4) ?_
        refine s_condF rfl ?_
        refine s_skip ?_
        refine s_endb ?_
        refine s_seq ?_
        refine s_seq ?_
        refine s_region ?_
        refine s_q (by (first | exact y_fieldAddrB rfl rfl rfl rfl rfl rfl | exact y_fieldAddr rfl rfl rfl rfl rfl rfl)) rfl ?_
        refine s_q (by (first | exact y_indexAddrA rfl rfl rfl rfl rfl (by omega) (by omega) | exact y_ixI rfl rfl rfl rfl rfl (by assumption) rfl (by omega) (by omega))) rfl ?_
        refine s_q (by (first | exact y_ldN rfl rfl rfl (by rfl) | exact y_ld rfl rfl rfl (by rfl) | exact y_ldN rfl rfl rfl (by rfl) | exact y_ldK rfl rfl rfl rfl (by assumption) (by omega) | exact y_ldI rfl rfl rfl rfl (by assumption) (by omega) (by omega))) rfl ?_
        refine s_q (y_move rfl) rfl ?_
        refine s_q (y_sub rfl rfl (by omega)) rfl ?_
        refine s_call (pre := []) (rem := _) rfl rfl tk (fun w N ho hl => within_spec w N _ _ _ ho) rfl ?_
        rintro e L' ⟨rfl, rfl⟩
        try simp only [List.nil_append, List.cons_append, List.append_nil]
        refine s_q (by (first | exact y_notT rfl | exact y_notF rfl | exact y_notp rfl | exact y_notb rfl)) rfl ?_
        refine s_done ?_
        first | refine J.split (t := 68) rfl (fun c5 => ?_) (fun c5 => ?_) | refine J.splitb (t := 68) rfl (fun c5 => ?_) (fun c5 => ?_)
        · skip
          first | refine J.known (t := 69) (b := false) rfl (decide_eq_false (not_not_intro c5)) ?_ | refine J.known (t := 69) (b := false) rfl (congrArg not c5) ?_
          refine s_condF rfl ?_
          refine s_skip ?_
          refine s_seq ?_
          refine s_region ?_
          refine s_q (y_assign rfl) rfl ?_
          refine s_done ?_
          exact s_return ⟨(by (try simp only [termE, inR] at *); grind), rfl⟩ (res_tmp Try.results44 rfl)
        first | refine J.known (t := 69) (b := true) rfl (decide_eq_true c5) ?_ | refine J.known (t := 69) (b := true) rfl (congrArg not c5) ?_
        refine s_condT rfl ?_
        refine s_seq ?_
        refine s_region ?_
        refine s_q (y_assign rfl) rfl ?_
        refine s_done ?_
        exact s_return ⟨(by (try simp only [termE, inR] at *); grind), rfl⟩ (res_tmp Try.results44 rfl)
      first | refine J.known (t := 35) (b := true) rfl (decide_eq_true c4) ?_ | refine J.known (t := 35) (b := true) rfl (congrArg not c4) ?_
      refine s_condT rfl ?_
      refine s_seq ?_
      refine s_region ?_
      refine s_q (y_assign rfl) rfl ?_
      refine s_done ?_
      exact s_return ⟨(by (try simp only [termE, inR] at *); grind), rfl⟩ (res_tmp Try.results44 rfl)
    first | refine J.known (t := 28) (b := true) rfl (decide_eq_true c3) ?_ | refine J.known (t := 28) (b := true) rfl (congrArg not c3) ?_
    refine s_condT rfl ?_
    refine s_seq ?_
    refine s_region ?_
    refine s_q (y_assign rfl) rfl ?_
    refine s_done ?_
    exact s_return ⟨(by (try simp only [termE, inR] at *); grind), rfl⟩ (res_tmp Try.results44 rfl)
  first | refine J.known (t := 20) (b := false) rfl (decide_eq_false c2) ?_ | refine J.known (t := 20) (b := false) rfl c2 ?_
  refine s_condF rfl ?_
  refine s_seq ?_
  refine s_region ?_
  refine s_q (by (first | exact y_eql rfl rfl | exact y_eqlB rfl rfl rfl)) rfl ?_
  refine s_q (y_assign rfl) rfl ?_
  refine s_done ?_
  first | refine J.split (t := 37) rfl (fun c3 => ?_) (fun c3 => ?_) | refine J.splitb (t := 37) rfl (fun c3 => ?_) (fun c3 => ?_)
  · skip
    first | refine J.known (t := 36) (b := true) rfl (decide_eq_true c3) ?_ | refine J.known (t := 36) (b := true) rfl c3 ?_
    refine s_condT rfl ?_
    refine s_seq ?_
    refine s_seq ?_
    refine s_region ?_
    refine s_q (by (first | exact y_fieldAddrB rfl rfl rfl rfl rfl rfl | exact y_fieldAddr rfl rfl rfl rfl rfl rfl)) rfl ?_
    refine s_q (by (first | exact y_ldN rfl rfl rfl (by rfl) | exact y_ld rfl rfl rfl (by rfl) | exact y_ldN rfl rfl rfl (by rfl) | exact y_ldK rfl rfl rfl rfl (by assumption) (by omega) | exact y_ldI rfl rfl rfl rfl (by assumption) (by omega) (by omega))) rfl ?_
    refine s_q (by (first | exact y_buildA rfl rfl rfl rfl | exact y_build rfl rfl rfl rfl)) rfl ?_
    refine s_q (by (first | exact y_neqArr2 3 (by kernel_rfl) rfl rfl | exact y_neq rfl rfl | exact y_neqB rfl rfl rfl)) rfl ?_
    refine s_done ?_
    first | refine J.split (t := 41) rfl (fun c4 => ?_) (fun c4 => ?_) | refine J.splitb (t := 41) rfl (fun c4 => ?_) (fun c4 => ?_)
    · skip
      refine s_condT rfl ?_
      refine s_seq ?_
      refine s_region ?_
      refine s_q (y_assign rfl) rfl ?_
      refine s_done ?_
      exact s_return ⟨(by (try simp only [termE, inR] at *); grind), rfl⟩ (res_tmp Try.results44 rfl)
    refine s_condF rfl ?_
    refine s_skip ?_
    refine s_seq ?_
    refine s_region ?_
    refine s_q (by (first | exact y_fieldAddrB rfl rfl rfl rfl rfl rfl | exact y_fieldAddr rfl rfl rfl rfl rfl rfl)) rfl ?_
    refine s_q (by (first | exact y_ldN rfl rfl rfl (by rfl) | exact y_ld rfl rfl rfl (by rfl) | exact y_ldN rfl rfl rfl (by rfl) | exact y_ldK rfl rfl rfl rfl (by assumption) (by omega) | exact y_ldI rfl rfl rfl rfl (by assumption) (by omega) (by omega))) rfl ?_
    refine s_q (by (first | exact y_neqArr2 3 (by kernel_rfl) rfl rfl | exact y_neq rfl rfl | exact y_neqB rfl rfl rfl)) rfl ?_
    refine s_q (y_move rfl) rfl ?_
    first | refine J.split (t := 44) rfl (fun c5 => ?_) (fun c5 => ?_) | refine J.splitb (t := 44) rfl (fun c5 => ?_) (fun c5 => ?_)
    · skip
      first | refine J.known (t := 45) (b := true) rfl (decide_eq_true c5) ?_ | refine J.known (t := 45) (b := true) rfl c5 ?_
      refine s_guard rfl rfl ?_
      refine s_q (by (first | exact y_fieldAddrB rfl rfl rfl rfl rfl rfl | exact y_fieldAddr rfl rfl rfl rfl rfl rfl)) rfl ?_
      refine s_guard rfl rfl ?_
      refine s_q (by (first | exact y_ldN rfl rfl rfl (by rfl) | exact y_ld rfl rfl rfl (by rfl) | exact y_ldN rfl rfl rfl (by rfl) | exact y_ldK rfl rfl rfl rfl (by assumption) (by omega) | exact y_ldI rfl rfl rfl rfl (by assumption) (by omega) (by omega))) rfl ?_
      refine s_guard rfl rfl ?_
      refine s_q (by (first | exact y_fieldAddrB rfl rfl rfl rfl rfl rfl | exact y_fieldAddr rfl rfl rfl rfl rfl rfl)) rfl ?_
      refine s_guard rfl rfl ?_
      refine s_q (by (first | exact y_ldN rfl rfl rfl (by rfl) | exact y_ld rfl rfl rfl (by rfl) | exact y_ldN rfl rfl rfl (by rfl) | exact y_ldK rfl rfl rfl rfl (by assumption) (by omega) | exact y_ldI rfl rfl rfl rfl (by assumption) (by omega) (by omega))) rfl ?_
      refine s_guard rfl rfl ?_
      refine s_q (by (first | exact y_neqArr2 3 (by kernel_rfl) rfl rfl | exact y_neq rfl rfl | exact y_neqB rfl rfl rfl)) rfl ?_
      refine s_q (y_pickT rfl rfl) rfl ?_
      refine s_done ?_
      first | refine J.split (t := 50) rfl (fun c6 => ?_) (fun c6 => ?_) | refine J.splitb (t := 50) rfl (fun c6 => ?_) (fun c6 => ?_)
      · skip
        first | refine J.known (t := 51) (b := true) rfl (decide_eq_true c6) ?_ | refine J.known (t := 51) (b := true) rfl c6 ?_
        refine s_condT rfl ?_
        refine s_seq ?_
        refine s_region ?_
        refine s_q (y_assign rfl) rfl ?_
        refine s_done ?_
        exact s_return ⟨(by (try simp only [termE, inR] at *); grind), rfl⟩ (res_tmp Try.results44 rfl)
      first | refine J.known (t := 51) (b := false) rfl (decide_eq_false c6) ?_ | refine J.known (t := 51) (b := false) rfl c6 ?_
      refine s_condF rfl ?_
      refine s_skip ?_
      refine s_endb ?_
      refine s_seq ?_
      refine s_seq ?_
      refine s_region ?_
      refine s_q (by (first | exact y_fieldAddrB rfl rfl rfl rfl rfl rfl | exact y_fieldAddr rfl rfl rfl rfl rfl rfl)) rfl ?_
      refine s_q (by (first | exact y_indexAddrA rfl rfl rfl rfl rfl (by omega) (by omega) | exact y_ixI rfl rfl rfl rfl rfl (by assumption) rfl (by omega) (by omega))) rfl ?_
      refine s_q (by (first | exact y_ldN rfl rfl rfl (by rfl) | exact y_ld rfl rfl rfl (by rfl) | exact y_ldN rfl rfl rfl (by rfl) | exact y_ldK rfl rfl rfl rfl (by assumption) (by omega) | exact y_ldI rfl rfl rfl rfl (by assumption) (by omega) (by omega))) rfl ?_
      refine s_q (y_move rfl) rfl ?_
      refine s_q (y_sub rfl rfl (by omega)) rfl ?_
      refine s_call (pre := []) (rem := _) rfl rfl tk (fun w N ho hl => within_spec w N _ _ _ ho) rfl ?_
      rintro e L' ⟨rfl, rfl⟩
      try simp only [List.nil_append, List.cons_append, List.append_nil]
      refine s_q (by (first | exact y_notT rfl | exact y_notF rfl | exact y_notp rfl | exact y_notb rfl)) rfl ?_
      refine s_done ?_
      first | refine J.split (t := 68) rfl (fun c7 => ?_) (fun c7 => ?_) | refine J.splitb (t := 68) rfl (fun c7 => ?_) (fun c7 => ?_)
      · skip
        first | refine J.known (t := 69) (b := false) rfl (decide_eq_false (not_not_intro c7)) ?_ | refine J.known (t := 69) (b := false) rfl (congrArg not c7) ?_
        refine s_condF rfl ?_
        refine s_skip ?_
        refine s_seq ?_
        refine s_region ?_
        refine s_q (y_assign rfl) rfl ?_
        refine s_done ?_
        exact s_return ⟨(by (try simp only [termE, inR] at *); grind), rfl⟩ (res_tmp Try.results44 rfl)
      first | refine J.known (t := 69) (b := true) rfl (decide_eq_true c7) ?_ | refine J.known (t := 69) (b := true) rfl (congrArg not c7) ?_
      refine s_condT rfl ?_
      refine s_seq ?_
      refine s_region ?_
      refine s_q (y_assign rfl) rfl ?_
      refine s_done ?_
      exact s_return ⟨(by (try simp only [termE, inR] at *); grind), rfl⟩ (res_tmp Try.results44 rfl)
    first | refine J.known (t := 45) (b := false) rfl (decide_eq_false c5) ?_ | refine J.known (t := 45) (b := false) rfl c5 ?_
    refine s_unguard2 (b := false) rfl rfl rfl rfl rfl ?_
    refine s_unguard2 (b := false) rfl rfl rfl rfl rfl ?_
    refine s_unguard2 (b := false) rfl rfl rfl rfl rfl ?_
    refine s_unguard2 (b := false) rfl rfl rfl rfl rfl ?_
    refine s_unguard2 (b := false) rfl rfl rfl rfl rfl ?_
    refine s_q (y_pickF rfl rfl) rfl ?_
    refine s_done ?_
    refine s_condF rfl ?_
    refine s_skip ?_
    refine s_endb ?_
    refine s_seq ?_
    refine s_seq ?_
    refine s_region ?_
    refine s_q (by (first | exact y_fieldAddrB rfl rfl rfl rfl rfl rfl | exact y_fieldAddr rfl rfl rfl rfl rfl rfl)) rfl ?_
    refine s_q (by (first | exact y_indexAddrA rfl rfl rfl rfl rfl (by omega) (by omega) | exact y_ixI rfl rfl rfl rfl rfl (by assumption) rfl (by omega) (by omega))) rfl ?_
    refine s_q (by (first | exact y_ldN rfl rfl rfl (by rfl) | exact y_ld rfl rfl rfl (by rfl) | exact y_ldN rfl rfl rfl (by rfl) | exact y_ldK rfl rfl rfl rfl (by assumption) (by omega) | exact y_ldI rfl rfl rfl rfl (by assumption) (by omega) (by omega))) rfl ?_
    refine s_q (y_move rfl) rfl ?_
    refine s_q (y_sub rfl rfl (by omega)) rfl ?_
    refine s_call (pre := []) (rem := _) rfl rfl tk (fun w N ho hl => within_spec w N _ _ _ ho) rfl ?_
    rintro e L' ⟨rfl, rfl⟩
    try simp only [List.nil_append, List.cons_append, List.append_nil]
    refine s_q (by (first | exact y_notT rfl | exact y_notF rfl | exact y_notp rfl | exact y_notb rfl)) rfl ?_
    refine s_done ?_
    first | refine J.split (t := 68) rfl (fun c6 => ?_) (fun c6 => ?_) | refine J.splitb (t := 68) rfl (fun c6 => ?_) (fun c6 => ?_)
    · skip
      first | refine J.known (t := 69) (b := false) rfl (decide_eq_false (not_not_intro c6)) ?_ | refine J.known (t := 69) (b := false) rfl (congrArg not c6) ?_
      refine s_condF rfl ?_
      refine s_skip ?_
      refine s_seq ?_
      refine s_region ?_
      refine s_q (y_assign rfl) rfl ?_
      refine s_done ?_
      exact s_return ⟨(by (try simp only [termE, inR] at *); grind), rfl⟩ (res_tmp Try.results44 rfl)
    first | refine J.known (t := 69) (b := true) rfl (decide_eq_true c6) ?_ | refine J.known (t := 69) (b := true) rfl (congrArg not c6) ?_
    refine s_condT rfl ?_
    refine s_seq ?_
    refine s_region ?_
    refine s_q (y_assign rfl) rfl ?_
    refine s_done ?_
    exact s_return ⟨(by (try simp only [termE, inR] at *); grind), rfl⟩ (res_tmp Try.results44 rfl)
  first | refine J.known (t := 36) (b := false) rfl (decide_eq_false c3) ?_ | refine J.known (t := 36) (b := false) rfl c3 ?_
  refine s_condF rfl ?_
  refine s_seq ?_
  refine s_region ?_
  refine s_q (by (first | exact y_eql rfl rfl | exact y_eqlB rfl rfl rfl)) rfl ?_
  refine s_q (y_assign rfl) rfl ?_
  refine s_done ?_
  first | refine J.split (t := 53) rfl (fun c4 => ?_) (fun c4 => ?_) | refine J.splitb (t := 53) rfl (fun c4 => ?_) (fun c4 => ?_)
  · skip
    first | refine J.known (t := 52) (b := true) rfl (decide_eq_true c4) ?_ | refine J.known (t := 52) (b := true) rfl c4 ?_
    refine s_condT rfl ?_
    refine s_seq ?_
    refine s_region ?_
    refine s_q (by (first | exact y_fieldAddrB rfl rfl rfl rfl rfl rfl | exact y_fieldAddr rfl rfl rfl rfl rfl rfl)) rfl ?_
    refine s_q (by (first | exact y_ldN rfl rfl rfl (by rfl) | exact y_ld rfl rfl rfl (by rfl) | exact y_ldN rfl rfl rfl (by rfl) | exact y_ldK rfl rfl rfl rfl (by assumption) (by omega) | exact y_ldI rfl rfl rfl rfl (by assumption) (by omega) (by omega))) rfl ?_
    refine s_q (by (first | exact y_neqArr2 3 (by kernel_rfl) rfl rfl | exact y_neq rfl rfl | exact y_neqB rfl rfl rfl)) rfl ?_
    refine s_q (y_move rfl) rfl ?_
    first | refine J.split (t := 56) rfl (fun c5 => ?_) (fun c5 => ?_) | refine J.splitb (t := 56) rfl (fun c5 => ?_) (fun c5 => ?_)
    · skip
      first | refine J.known (t := 57) (b := true) rfl (decide_eq_true c5) ?_ | refine J.known (t := 57) (b := true) rfl c5 ?_
      refine s_unguard2 (b := true) rfl rfl rfl rfl rfl ?_
      refine s_unguard2 (b := true) rfl rfl rfl rfl rfl ?_
      refine s_unguard2 (b := true) rfl rfl rfl rfl rfl ?_
      refine s_unguard2 (b := true) rfl rfl rfl rfl rfl ?_
      refine s_q (y_pickT rfl rfl) rfl ?_
      refine s_done ?_
      refine s_condT rfl ?_
      refine s_seq ?_
      refine s_region ?_
      refine s_q (y_assign rfl) rfl ?_
      refine s_done ?_
      exact s_return ⟨(by (try simp only [termE, inR] at *); grind), rfl⟩ (res_tmp Try.results44 rfl)
    first | refine J.known (t := 57) (b := false) rfl (decide_eq_false c5) ?_ | refine J.known (t := 57) (b := false) rfl c5 ?_
    refine s_guard rfl rfl ?_
    refine s_q (by (first | exact y_fieldAddrB rfl rfl rfl rfl rfl rfl | exact y_fieldAddr rfl rfl rfl rfl rfl rfl)) rfl ?_
    refine s_guard rfl rfl ?_
    refine s_q (by (first | exact y_ldN rfl rfl rfl (by rfl) | exact y_ld rfl rfl rfl (by rfl) | exact y_ldN rfl rfl rfl (by rfl) | exact y_ldK rfl rfl rfl rfl (by assumption) (by omega) | exact y_ldI rfl rfl rfl rfl (by assumption) (by omega) (by omega))) rfl ?_
    refine s_guard rfl rfl ?_
    refine s_q (by (first | exact y_buildA rfl rfl rfl rfl | exact y_build rfl rfl rfl rfl)) rfl ?_
    refine s_guard rfl rfl ?_
    refine s_q (by (first | exact y_neqArr2 3 (by kernel_rfl) rfl rfl | exact y_neq rfl rfl | exact y_neqB rfl rfl rfl)) rfl ?_
    refine s_q (y_pickF rfl rfl) rfl ?_
    refine s_done ?_
    first | refine J.split (t := 61) rfl (fun c6 => ?_) (fun c6 => ?_) | refine J.splitb (t := 61) rfl (fun c6 => ?_) (fun c6 => ?_)
    · skip
      first | refine J.known (t := 62) (b := true) rfl (decide_eq_true c6) ?_ | refine J.known (t := 62) (b := true) rfl c6 ?_
      refine s_condT rfl ?_
      refine s_seq ?_
      refine s_region ?_
      refine s_q (y_assign rfl) rfl ?_
      refine s_done ?_
      exact s_return ⟨(by (try simp only [termE, inR] at *); grind), rfl⟩ (res_tmp Try.results44 rfl)
    first | refine J.known (t := 62) (b := false) rfl (decide_eq_false c6) ?_ | refine J.known (t := 62) (b := false) rfl c6 ?_
    refine s_condF rfl ?_
    refine s_skip ?_
    refine s_endb ?_
    refine s_seq ?_
    refine s_seq ?_
    refine s_region ?_
    refine s_q (by (first | exact y_fieldAddrB rfl rfl rfl rfl rfl rfl | exact y_fieldAddr rfl rfl rfl rfl rfl rfl)) rfl ?_
    refine s_q (by (first | exact y_indexAddrA rfl rfl rfl rfl rfl (by omega) (by omega) | exact y_ixI rfl rfl rfl rfl rfl (by assumption) rfl (by omega) (by omega))) rfl ?_
    refine s_q (by (first | exact y_ldN rfl rfl rfl (by rfl) | exact y_ld rfl rfl rfl (by rfl) | exact y_ldN rfl rfl rfl (by rfl) | exact y_ldK rfl rfl rfl rfl (by assumption) (by omega) | exact y_ldI rfl rfl rfl rfl (by assumption) (by omega) (by omega))) rfl ?_
    refine s_q (y_move rfl) rfl ?_
    refine s_q (y_sub rfl rfl (by omega)) rfl ?_
    refine s_call (pre := []) (rem := _) rfl rfl tk (fun w N ho hl => within_spec w N _ _ _ ho) rfl ?_
    rintro e L' ⟨rfl, rfl⟩
    try simp only [List.nil_append, List.cons_append, List.append_nil]
    refine s_q (by (first | exact y_notT rfl | exact y_notF rfl | exact y_notp rfl | exact y_notb rfl)) rfl ?_
    refine s_done ?_
    first | refine J.split (t := 68) rfl (fun c7 => ?_) (fun c7 => ?_) | refine J.splitb (t := 68) rfl (fun c7 => ?_) (fun c7 => ?_)
    · skip
      first | refine J.known (t := 69) (b := false) rfl (decide_eq_false (not_not_intro c7)) ?_ | refine J.known (t := 69) (b := false) rfl (congrArg not c7) ?_
      refine s_condF rfl ?_
      refine s_skip ?_
      refine s_seq ?_
      refine s_region ?_
      refine s_q (y_assign rfl) rfl ?_
      refine s_done ?_
      exact s_return ⟨(by (try simp only [termE, inR] at *); grind), rfl⟩ (res_tmp Try.results44 rfl)
    first | refine J.known (t := 69) (b := true) rfl (decide_eq_true c7) ?_ | refine J.known (t := 69) (b := true) rfl (congrArg not c7) ?_
    refine s_condT rfl ?_
    refine s_seq ?_
    refine s_region ?_
    refine s_q (y_assign rfl) rfl ?_
    refine s_done ?_
    exact s_return ⟨(by (try simp only [termE, inR] at *); grind), rfl⟩ (res_tmp Try.results44 rfl)
  first | refine J.known (t := 52) (b := false) rfl (decide_eq_false c4) ?_ | refine J.known (t := 52) (b := false) rfl c4 ?_
  refine s_condF rfl ?_
  refine s_seq ?_
  refine s_region ?_
  refine s_q (y_assign rfl) rfl ?_
  refine s_done ?_
  exact s_return ⟨(by (try simp only [termE, inR] at *); grind), rfl⟩ (res_tmp Try.results44 rfl)
theorem longNext {bs : List BlkD} {f : Int} {k : Nat} {bb : Bool} (hbb : bb = true ↔ ((bs.length = 0 ∨ 200 < bs.length ∨ ¬ (0 ≤ f ∧ f ≤ 400)) ∨ ∃ j, j < k ∧ 4000 < (bs.getD j .no).ins.length)) (h : bb = false) :
    decide (((bs.getD k .no).ins.length : Int) > 4000) = true ↔ ((bs.length = 0 ∨ 200 < bs.length ∨ ¬ (0 ≤ f ∧ f ≤ 400)) ∨ ∃ j, j < k + 1 ∧ 4000 < (bs.getD j .no).ins.length) := by
  have hn : ¬ ((bs.length = 0 ∨ 200 < bs.length ∨ ¬ (0 ≤ f ∧ f ≤ 400)) ∨ ∃ j, j < k ∧ 4000 < (bs.getD j .no).ins.length) := fun x => by rw [hbb.2 x] at h; cases h
  rw [decide_eq_true_iff]
  constructor
  · intro x; exact .inr ⟨k, by omega, by omega⟩
  · rintro (x | ⟨j, hj, x⟩)
    · exact absurd (.inl x) hn
    · by_cases e : j = k
      · subst e; omega
      · exact absurd (.inr ⟨j, by omega, x⟩) hn
theorem refRight_spec (w : World) (N : Nat → Prop) (m : MV) (A B T : Option Addr) (c d q : Nat) (f : Int) (bs : List BlkD) (ho : Owns w [] N) (ha : KI w N A m.args) (hs : KI w N B m.saved) (hla : m.args.length < 100000000) (hls : m.saved.length < 100000000) (hcap : m.args.length ≤ c) (hb : KB w N T bs) (hlen : bs.length < 1000000) (hil : ∀ b ∈ bs, b.ins.length < 1000000) (hxl : ∀ b ∈ bs, ∀ i ∈ b.ins, i.xs.length < 1000000) :
    Ret Try.prog 16 [.agg (mval m A c B d).toArray, .agg #[.int .i64 f, .slice T bs.length q]] w N fun v L => v = .int .i64 (rightE m f bs) ∧ L = [] := by
  refine ret_of_J cx Try.func16 rfl (Nat.le_of_ble_eq_true rfl) ho ?_
  refine s_seq ?_
  refine s_region ?_
  first | (refine s_box1 rfl rfl rfl (fun b1 => ?_)) | (refine s_boxA rfl rfl (fun b1 => ?_))
  change J _ _ _ (cb b1 24 (mval m A c B d) :: _) _
  first | (refine s_box1 rfl rfl rfl (fun b2 => ?_)) | (refine s_boxA rfl rfl (fun b2 => ?_))
  change J _ _ _ (cb b2 27 [.int .i64 f, .slice T bs.length q] :: _) _
  refine s_q (y_assign rfl) rfl ?_
  refine s_done ?_
  refine s_seq ?_
  refine s_seq ?_
  refine s_region ?_
  refine s_q (by (first | exact y_ldN rfl rfl rfl (by rfl) | exact y_ld rfl rfl rfl (by rfl) | exact y_ldN rfl rfl rfl (by rfl) | exact y_ldK rfl rfl rfl rfl (by assumption) (by omega) | exact y_ldI rfl rfl rfl rfl (by assumption) (by omega) (by omega))) rfl ?_
  refine s_call (pre := []) (rem := _) rfl rfl tk (fun w N ho hl => ref5Right_spec w N A B c d m ho (ha.of hl) (hs.of hl) hla hls hcap) rfl ?_
  rintro e L' ⟨rfl, rfl⟩
  try simp only [List.nil_append, List.cons_append, List.append_nil]
  cases hm : machOK m with
  | false =>
    refine s_q (by (first | exact y_notT rfl | exact y_notF rfl | exact y_notp rfl | exact y_notb rfl)) rfl ?_
    refine s_done ?_
    refine s_condT2 rfl (by with_reducible rfl) ?_
    refine s_seq ?_
    refine s_region ?_
    refine s_q (y_assign rfl) rfl ?_
    refine s_done ?_
    exact s_return ⟨by rw [rightE, if_pos hm], rfl⟩ (res_tmp Try.results16 rfl)
  | true =>
  have hm8 := machOK_regs hm
  have hmf : ¬ machOK m = false := by rw [hm]; simp
  refine s_q (by (first | exact y_notT rfl | exact y_notF rfl | exact y_notp rfl | exact y_notb rfl)) rfl ?_
  refine s_done ?_
  refine s_condF2 rfl (by with_reducible rfl) ?_
  refine s_skip ?_
  refine s_seq ?_
  refine s_joinV (σ := Bool) (fun s => [(5, .bool s)]) [] (fun s => []) (fun s => (s = true ↔ (bs.length = 0 ∨ 200 < bs.length ∨ ¬ (0 ≤ f ∧ f ≤ 400)))) [(2, _), (3, _)] ⟨rfl, rfl, trivial⟩ tk (fun k' hr => ?_) ?_
  · refine s_region ?_
    refine s_q (by (first | exact y_fieldAddrB rfl rfl rfl rfl rfl rfl | exact y_fieldAddr rfl rfl rfl rfl rfl rfl)) rfl ?_
    refine s_q (by (first | exact y_ld rfl rfl rfl (by rfl) | exact y_ldN rfl rfl rfl (by rfl) | exact y_ldK rfl rfl rfl rfl (by assumption) (by omega) | exact y_ldI rfl rfl rfl rfl (by assumption) (by omega) (by omega))) rfl ?_
    refine s_q (y_lenS rfl rfl rfl) rfl ?_
    refine s_q (y_lss rfl rfl) rfl ?_
    refine s_q (y_move rfl) rfl ?_
    first | refine J.split (t := 17) rfl (fun c1 => ?_) (fun c1 => ?_) | refine J.splitb (t := 17) rfl (fun c1 => ?_) (fun c1 => ?_)
    · skip
      first | refine J.known (t := 18) (b := true) rfl (decide_eq_true c1) ?_ | refine J.known (t := 18) (b := true) rfl c1 ?_
      refine s_unguard2 (b := true) rfl rfl rfl rfl rfl ?_
      refine s_unguard2 (b := true) rfl rfl rfl rfl rfl ?_
      refine s_unguard2 (b := true) rfl rfl rfl rfl rfl ?_
      refine s_unguard2 (b := true) rfl rfl rfl rfl rfl ?_
      refine s_q (y_pickT rfl rfl) rfl ?_
      refine s_q (y_move rfl) rfl ?_
      refine s_unguard2 (b := true) rfl rfl rfl rfl rfl ?_
      refine s_unguard2 (b := true) rfl rfl rfl rfl rfl ?_
      refine s_unguard2 (b := true) rfl rfl rfl rfl rfl ?_
      refine s_unguard2 (b := true) rfl rfl rfl rfl rfl ?_
      refine s_q (y_pickT rfl rfl) rfl ?_
      refine s_q (y_assign rfl) rfl ?_
      refine s_done ?_
      have hr' := hr true (by simp only [true_iff, iff_true, false_iff, iff_false, Bool.false_eq_true]; omega)
      try dsimp only [List.cons_append, List.nil_append, List.append_nil] at hr'
      exact J.to hr' ⟨rfl, rfl, rfl, trivial⟩ tk
    first | refine J.known (t := 18) (b := false) rfl (decide_eq_false c1) ?_ | refine J.known (t := 18) (b := false) rfl c1 ?_
    refine s_guard rfl rfl ?_
    refine s_q (by (first | exact y_fieldAddrB rfl rfl rfl rfl rfl rfl | exact y_fieldAddr rfl rfl rfl rfl rfl rfl)) rfl ?_
    refine s_guard rfl rfl ?_
    refine s_q (by (first | exact y_ld rfl rfl rfl (by rfl) | exact y_ldN rfl rfl rfl (by rfl) | exact y_ldK rfl rfl rfl rfl (by assumption) (by omega) | exact y_ldI rfl rfl rfl rfl (by assumption) (by omega) (by omega))) rfl ?_
    refine s_guard rfl rfl ?_
    refine s_q (y_lenS rfl rfl rfl) rfl ?_
    refine s_guard rfl rfl ?_
    refine s_q (y_gtr rfl rfl) rfl ?_
    refine s_q (y_pickF rfl rfl) rfl ?_
    refine s_q (y_move rfl) rfl ?_
    first | refine J.split (t := 22) rfl (fun c2 => ?_) (fun c2 => ?_) | refine J.splitb (t := 22) rfl (fun c2 => ?_) (fun c2 => ?_)
    · skip
      first | refine J.known (t := 24) (b := true) rfl (decide_eq_true c2) ?_ | refine J.known (t := 24) (b := true) rfl c2 ?_
      refine s_unguard2 (b := true) rfl rfl rfl rfl rfl ?_
      refine s_unguard2 (b := true) rfl rfl rfl rfl rfl ?_
      refine s_unguard2 (b := true) rfl rfl rfl rfl rfl ?_
      refine s_unguard2 (b := true) rfl rfl rfl rfl rfl ?_
      refine s_q (y_pickT rfl rfl) rfl ?_
      refine s_q (y_assign rfl) rfl ?_
      refine s_done ?_
      have hr' := hr true (by simp only [true_iff, iff_true, false_iff, iff_false, Bool.false_eq_true]; omega)
      try dsimp only [List.cons_append, List.nil_append, List.append_nil] at hr'
      exact J.to hr' ⟨rfl, rfl, rfl, trivial⟩ tk
    first | refine J.known (t := 24) (b := false) rfl (decide_eq_false c2) ?_ | refine J.known (t := 24) (b := false) rfl c2 ?_
    refine s_guard rfl rfl ?_
    refine s_q (by (first | exact y_fieldAddrB rfl rfl rfl rfl rfl rfl | exact y_fieldAddr rfl rfl rfl rfl rfl rfl)) rfl ?_
    refine s_guard rfl rfl ?_
    refine s_q (by (first | exact y_ld rfl rfl rfl (by rfl) | exact y_ldN rfl rfl rfl (by rfl) | exact y_ldK rfl rfl rfl rfl (by assumption) (by omega) | exact y_ldI rfl rfl rfl rfl (by assumption) (by omega) (by omega))) rfl ?_
    refine s_guard rfl rfl ?_
    refine s_call (pre := []) (rem := _) rfl rfl tk (fun w N ho hl => within_spec w N _ _ _ ho) rfl ?_
    rintro e L' ⟨rfl, rfl⟩
    try simp only [List.nil_append, List.cons_append, List.append_nil]
    refine s_guard rfl rfl ?_
    refine s_q (by (first | exact y_notT rfl | exact y_notF rfl | exact y_notp rfl | exact y_notb rfl)) rfl ?_
    refine s_q (y_pickF rfl rfl) rfl ?_
    refine s_q (y_assign rfl) rfl ?_
    refine s_done ?_
    first | refine J.split (t := 27) rfl (fun c3 => ?_) (fun c3 => ?_) | refine J.splitb (t := 27) rfl (fun c3 => ?_) (fun c3 => ?_)
    · skip
      first | refine J.known (t := 5) (b := false) rfl (decide_eq_false (not_not_intro c3)) ?_ | refine J.known (t := 5) (b := false) rfl (congrArg not c3) ?_
      have hr' := hr false (by simp only [true_iff, iff_true, false_iff, iff_false, Bool.false_eq_true]; omega)
      try dsimp only [List.cons_append, List.nil_append, List.append_nil] at hr'
      exact J.to hr' ⟨rfl, rfl, rfl, trivial⟩ tk
    first | refine J.known (t := 5) (b := true) rfl (decide_eq_true c3) ?_ | refine J.known (t := 5) (b := true) rfl (congrArg not c3) ?_
    have hr' := hr true (by simp only [true_iff, iff_true, false_iff, iff_false, Bool.false_eq_true]; omega)
    try dsimp only [List.cons_append, List.nil_append, List.append_nil] at hr'
    exact J.to hr' ⟨rfl, rfl, rfl, trivial⟩ tk
  rintro bb h5
  dsimp only [List.cons_append, List.nil_append] at h5 ⊢
  refine s_seq ?_
  refine s_seq ?_
  refine s_region ?_
  refine s_q (y_assign rfl) rfl ?_
  refine s_done ?_
  refine s_block ?_
  refine s_loopV (σ := Nat × Bool) (fun s => [(6, .int .i64 s.1), (5, .bool s.2)]) (fun s => []) (fun s => (s.1 ≤ bs.length) ∧ (s.2 = true ↔ ((bs.length = 0 ∨ 200 < bs.length ∨ ¬ (0 ≤ f ∧ f ≤ 400)) ∨ ∃ j, j < s.1 ∧ 4000 < (bs.getD j .no).ins.length))) (fun s => bs.length - s.1) (0, bb) [(2, _), (3, _)] ⟨rfl, rfl, trivial⟩ ⟨rfl, rfl, trivial⟩ tk ⟨Nat.zero_le _, by rw [h5]; simp⟩ ?_
  rintro ⟨k, bb⟩ ⟨hk, hbb⟩
  try dsimp only [List.cons_append, List.nil_append, List.append_nil] at hk hbb ⊢
  have hrE : bb = true → rightE m f bs = 3 := fun e => by
    rw [rightE, if_neg hmf, if_pos ?_]
    rcases hbb.1 e with x | ⟨j, hj, x⟩
    · exact x.elim .inl (fun x => .inr (x.elim .inl (fun x => .inr (.inl x))))
    · exact .inr (.inr (.inr ⟨_, getD_mem .no (by omega), x⟩))
  refine s_seq ?_
  refine s_seq ?_
  refine s_region ?_
  refine s_q (y_move rfl) rfl ?_
  refine s_q (by (first | exact y_fieldAddrB rfl rfl rfl rfl rfl rfl | exact y_fieldAddr rfl rfl rfl rfl rfl rfl)) rfl ?_
  refine s_q (by (first | exact y_ldF (v := .slice (bs.getD k .no).A (bs.getD k .no).ins.length (bs.getD k .no).c) hb.blk rfl rfl rfl (by omega) rfl | exact y_ld rfl rfl rfl (by rfl) | exact y_ldN rfl rfl rfl (by rfl) | exact y_ldK rfl rfl rfl rfl (by assumption) (by omega) | exact y_ldI rfl rfl rfl rfl (by assumption) (by omega) (by omega))) rfl ?_
  refine s_q (y_lenS rfl rfl rfl) rfl ?_
  refine s_q (y_lss rfl rfl) rfl ?_
  refine s_q (y_move rfl) rfl ?_
  first | refine J.split (t := 34) rfl (fun c1 => ?_) (fun c1 => ?_) | refine J.splitb (t := 34) rfl (fun c1 => ?_) (fun c1 => ?_)
  · skip
    first | refine J.known (t := 35) (b := true) rfl (decide_eq_true c1) ?_ | refine J.known (t := 35) (b := true) rfl c1 ?_
    refine s_guard rfl rfl ?_
    refine s_q (y_move rfl) rfl ?_
    refine s_guard rfl rfl ?_
    refine s_q (by (first | exact y_notT rfl | exact y_notF rfl | exact y_notp rfl | exact y_notb rfl)) rfl ?_
    refine s_q (y_pickT rfl rfl) rfl ?_
    refine s_done ?_
    first | refine J.split (t := 5) rfl (fun c2 => ?_) (fun c2 => ?_) | refine J.splitb (t := 5) rfl (fun c2 => ?_) (fun c2 => ?_)
    · skip
      first | refine J.known (t := 38) (b := false) rfl (decide_eq_false (not_not_intro c2)) ?_ | refine J.known (t := 38) (b := false) rfl (congrArg not c2) ?_
      refine s_condF rfl ?_
      refine s_exit rfl ?_
      refine s_seq ?_
      refine s_seq ?_
      refine s_region ?_
      refine s_q (y_move rfl) rfl ?_
      refine s_done ?_
      refine s_condT rfl ?_
      refine s_seq ?_
      refine s_region ?_
      refine s_q (y_assign rfl) rfl ?_
      refine s_done ?_
      exact s_return ⟨(by rw [hrE c2]), rfl⟩ (res_tmp Try.results16 rfl)
    first | refine J.known (t := 38) (b := true) rfl (decide_eq_true c2) ?_ | refine J.known (t := 38) (b := true) rfl (congrArg not c2) ?_
    refine s_condT rfl ?_
    refine s_skip ?_
    refine s_seq ?_
    refine s_block ?_
    refine s_region ?_
    refine s_q (by (first | exact y_fieldAddrB rfl rfl rfl rfl rfl rfl | exact y_fieldAddr rfl rfl rfl rfl rfl rfl)) rfl ?_
    refine s_q (by (first | exact y_ldF (v := .slice (bs.getD k .no).A (bs.getD k .no).ins.length (bs.getD k .no).c) hb.blk rfl rfl rfl (by omega) rfl | exact y_ld rfl rfl rfl (by rfl) | exact y_ldN rfl rfl rfl (by rfl) | exact y_ldK rfl rfl rfl rfl (by assumption) (by omega) | exact y_ldI rfl rfl rfl rfl (by assumption) (by omega) (by omega))) rfl ?_
    refine s_q (y_move rfl) rfl ?_
    refine s_q (by (first | exact y_ixE hb.blk rfl rfl rfl rfl rfl rfl (by omega) (by omega) | exact y_ixI rfl rfl rfl rfl rfl (by assumption) rfl (by omega) (by omega))) rfl ?_
    refine s_q (by (first | exact y_fieldAddrB rfl rfl rfl rfl rfl rfl | exact y_fieldAddr rfl rfl rfl rfl rfl rfl)) rfl ?_
    refine s_q (by (first | exact y_ldF (v := .slice (bs.getD k .no).A (bs.getD k .no).ins.length (bs.getD k .no).c) hb.blk rfl rfl rfl (by omega) rfl | exact y_ld rfl rfl rfl (by rfl) | exact y_ldN rfl rfl rfl (by rfl) | exact y_ldK rfl rfl rfl rfl (by assumption) (by omega) | exact y_ldI rfl rfl rfl rfl (by assumption) (by omega) (by omega))) rfl ?_
    refine s_q (y_lenS rfl rfl rfl) rfl ?_
    refine s_q (y_gtr rfl rfl) rfl ?_
    refine s_q (y_assign rfl) rfl ?_
    refine s_done ?_
    refine s_endb ?_
    refine s_region ?_
    refine s_q (y_move rfl) rfl ?_
    refine s_q (y_add rfl rfl (by omega)) rfl ?_
    refine s_q (y_assign rfl) rfl ?_
    refine s_done ?_
    refine s_inv (k + 1, decide (((bs.getD k .no).ins.length : Int) > 4000)) ⟨(by (try dsimp only); omega), longNext hbb c2⟩ (by (try dsimp only); omega) ⟨rfl, rfl, rfl, rfl, trivial⟩ tk
  first | refine J.known (t := 35) (b := false) rfl (decide_eq_false c1) ?_ | refine J.known (t := 35) (b := false) rfl c1 ?_
  refine s_unguard2 (b := false) rfl rfl rfl rfl rfl ?_
  refine s_unguard2 (b := false) rfl rfl rfl rfl rfl ?_
  refine s_q (y_pickF rfl rfl) rfl ?_
  refine s_done ?_
  refine s_condF rfl ?_
  refine s_exit rfl ?_
  refine s_seq ?_
  refine s_seq ?_
  refine s_region ?_
  refine s_q (y_move rfl) rfl ?_
  refine s_done ?_
  first | refine J.split (t := 5) rfl (fun c2 => ?_) (fun c2 => ?_) | refine J.splitb (t := 5) rfl (fun c2 => ?_) (fun c2 => ?_)
  · skip
    first | refine J.known (t := 49) (b := true) rfl (decide_eq_true c2) ?_ | refine J.known (t := 49) (b := true) rfl c2 ?_
    refine s_condT rfl ?_
    refine s_seq ?_
    refine s_region ?_
    refine s_q (y_assign rfl) rfl ?_
    refine s_done ?_
    exact s_return ⟨(by rw [hrE c2]), rfl⟩ (res_tmp Try.results16 rfl)
  first | refine J.known (t := 49) (b := false) rfl (decide_eq_false c2) ?_ | refine J.known (t := 49) (b := false) rfl c2 ?_
  refine s_condF rfl ?_
  refine s_skip ?_
  refine s_seq ?_
  refine s_seq ?_
  refine s_region ?_
  refine s_q (y_assign rfl) rfl ?_
  refine s_done ?_
  refine s_block ?_
  have hkl : k = bs.length := by omega
  subst hkl
  have hbd : ¬ (bs.length = 0 ∨ 200 < bs.length ∨ ¬ (0 ≤ f ∧ f ≤ 400) ∨ ∃ b ∈ bs, 4000 < b.ins.length) := fun x => by
    have : bb = true := hbb.2 (by
      rcases x with x | x | x | ⟨b, hb, x⟩
      · exact .inl (.inl x)
      · exact .inl (.inr (.inl x))
      · exact .inl (.inr (.inr x))
      · obtain ⟨j, hj, rfl⟩ := getD_of_mem BlkD.no hb
        exact .inr ⟨j, hj, x⟩)
    rw [this] at c2; cases c2
  have hR : rightE m f bs = firstE (bs.map (blkE m f bs.length)) := by rw [rightE, if_neg hmf, if_neg hbd]
  have hfr : 0 ≤ f ∧ f ≤ 400 := Classical.byContradiction fun x => hbd (.inr (.inr (.inl x)))
  have hb2 : bs.length ≤ 200 := Nat.le_of_not_lt fun x => hbd (.inr (.inl x))
  clear hbb hbd hrE
  refine s_loopV (σ := Nat) (fun s => [(7, .int .i64 s)]) (fun s => []) (fun s => (s ≤ bs.length) ∧ (firstE ((bs.drop s).map (blkE m f bs.length)) = rightE m f bs)) (fun s => bs.length - s) (0) [(2, _), (3, _)] ⟨rfl, rfl, trivial⟩ ⟨rfl, trivial⟩ tk ⟨Nat.zero_le _, hR.symm⟩ ?_
  rintro k ⟨hk, h1⟩
  try dsimp only [List.cons_append, List.nil_append, List.append_nil] at hk h1 ⊢
  refine s_seq ?_
  refine s_seq ?_
  refine s_region ?_
  refine s_q (y_move rfl) rfl ?_
  refine s_q (by (first | exact y_fieldAddrB rfl rfl rfl rfl rfl rfl | exact y_fieldAddr rfl rfl rfl rfl rfl rfl)) rfl ?_
  refine s_q (by (first | exact y_ld rfl rfl rfl (by rfl) | exact y_ldN rfl rfl rfl (by rfl) | exact y_ldK rfl rfl rfl rfl (by assumption) (by omega) | exact y_ldI rfl rfl rfl rfl (by assumption) (by omega) (by omega))) rfl ?_
  refine s_q (y_lenS rfl rfl rfl) rfl ?_
  refine s_q (y_lss rfl rfl) rfl ?_
  refine s_done ?_
  refine s_cond rfl (fun h => ?_) (fun h => ?_)
  · have hkl : k < bs.length := by omega
    rw [drop_D .no bs k hkl] at h1
    simp only [List.map_cons, firstE] at h1
    have hmem := getD_mem BlkD.no hkl
    obtain ⟨b, hbk⟩ : ∃ b, bs.getD k .no = b := ⟨_, rfl⟩
    rw [hbk] at h1 hmem
    have hin := hb.ins b hmem
    have hib := hil b hmem
    refine s_skip ?_
    refine s_seq ?_
    refine s_block ?_
    refine s_seq ?_
    refine s_seq ?_
    refine s_region ?_
    refine s_q (y_assign rfl) rfl ?_
    refine s_done ?_
    refine s_block ?_
    refine s_loopV (σ := Nat) (fun s => [(8, .int .i64 s)]) (fun s => []) (fun s => (s ≤ b.ins.length) ∧ (firstE ((b.ins.drop s).map (insE m.regs m.args.length f) ++ [termE m.regs m.ret bs.length b]) = blkE m f bs.length b)) (fun s => b.ins.length - s) (0) [(2, _), (3, _), (7, _)] ⟨rfl, rfl, rfl, trivial⟩ ⟨rfl, trivial⟩ tk ⟨Nat.zero_le _, rfl⟩ ?_
    rintro j ⟨hj, h2⟩
    try dsimp only [List.cons_append, List.nil_append, List.append_nil] at hj h2 ⊢
    refine s_seq ?_
    refine s_seq ?_
    refine s_region ?_
    refine s_q (y_move rfl) rfl ?_
    refine s_q (by (first | exact y_fieldAddrB rfl rfl rfl rfl rfl rfl | exact y_fieldAddr rfl rfl rfl rfl rfl rfl)) rfl ?_
    refine s_q (by (first | exact y_ldF (v := .slice b.A b.ins.length b.c) hb.blk rfl rfl rfl (by omega) (by rw [hbk]; rfl) | exact y_ld rfl rfl rfl (by rfl) | exact y_ldN rfl rfl rfl (by rfl) | exact y_ldK rfl rfl rfl rfl (by assumption) (by omega) | exact y_ldI rfl rfl rfl rfl (by assumption) (by omega) (by omega))) rfl ?_
    refine s_q (y_move rfl) rfl ?_
    refine s_q (by (first | exact y_ixE hb.blk rfl rfl rfl rfl rfl rfl (by omega) (by omega) | exact y_ixI rfl rfl rfl rfl rfl (by assumption) rfl (by omega) (by omega))) rfl ?_
    refine s_q (by (first | exact y_fieldAddrB rfl rfl rfl rfl rfl rfl | exact y_fieldAddr rfl rfl rfl rfl rfl rfl)) rfl ?_
    refine s_q (by (first | exact y_ldF (v := .slice b.A b.ins.length b.c) hb.blk rfl rfl rfl (by omega) (by rw [hbk]; rfl) | exact y_ld rfl rfl rfl (by rfl) | exact y_ldN rfl rfl rfl (by rfl) | exact y_ldK rfl rfl rfl rfl (by assumption) (by omega) | exact y_ldI rfl rfl rfl rfl (by assumption) (by omega) (by omega))) rfl ?_
    refine s_q (y_lenS rfl rfl rfl) rfl ?_
    refine s_q (y_lss rfl rfl) rfl ?_
    refine s_done ?_
    refine s_cond rfl (fun h3 => ?_) (fun h3 => ?_)
    · have hjl : j < b.ins.length := by omega
      rw [drop_D .no b.ins j hjl] at h2
      simp only [List.map_cons, List.cons_append, firstE] at h2
      have hmi := getD_mem InsD.no hjl
      have hia := hxl b hmem _ hmi
      refine s_skip ?_
      refine s_seq ?_
      refine s_block ?_
      refine s_seq ?_
      refine d_start ?_
      refine d_take 0 rfl (by kernel_rfl) (by (first | exact y_ldF (v := .slice b.A b.ins.length b.c) hb.blk rfl rfl rfl (by omega) (by rw [hbk]; rfl) | exact y_ldE hin rfl rfl rfl (by omega) rfl | exact y_ldN rfl rfl rfl (by rfl) | exact y_ld rfl rfl rfl (by rfl) | exact y_ldN rfl rfl rfl (by rfl) | exact y_ldK rfl rfl rfl rfl (by assumption) (by omega) | exact y_ldI rfl rfl rfl rfl (by assumption) (by omega) (by omega))) rfl ?_
      refine d_take 1 rfl (by kernel_rfl) (by (first | exact y_fieldAddrB rfl rfl rfl rfl rfl rfl | exact y_fieldAddr rfl rfl rfl rfl rfl rfl)) rfl ?_
      refine d_take 2 rfl (by kernel_rfl) (by (first | exact y_ldF (v := .slice b.A b.ins.length b.c) hb.blk rfl rfl rfl (by omega) (by rw [hbk]; rfl) | exact y_ldE hin rfl rfl rfl (by omega) rfl | exact y_ldN rfl rfl rfl (by rfl) | exact y_ld rfl rfl rfl (by rfl) | exact y_ldN rfl rfl rfl (by rfl) | exact y_ldK rfl rfl rfl rfl (by assumption) (by omega) | exact y_ldI rfl rfl rfl rfl (by assumption) (by omega) (by omega))) rfl ?_
      refine d_take 3 rfl (by kernel_rfl) (by (first | exact y_fieldAddrB rfl rfl rfl rfl rfl rfl | exact y_fieldAddr rfl rfl rfl rfl rfl rfl)) rfl ?_
      refine d_take 4 rfl (by kernel_rfl) (by (first | exact y_ldF (v := .slice b.A b.ins.length b.c) hb.blk rfl rfl rfl (by omega) (by rw [hbk]; rfl) | exact y_ldE hin rfl rfl rfl (by omega) rfl | exact y_ldN rfl rfl rfl (by rfl) | exact y_ld rfl rfl rfl (by rfl) | exact y_ldN rfl rfl rfl (by rfl) | exact y_ldK rfl rfl rfl rfl (by assumption) (by omega) | exact y_ldI rfl rfl rfl rfl (by assumption) (by omega) (by omega))) rfl ?_
      refine d_take 5 rfl (by kernel_rfl) (by exact y_move rfl) rfl ?_
      refine d_take 6 rfl (by kernel_rfl) (by (first | exact y_ixE hb.blk rfl rfl rfl rfl rfl rfl (by omega) (by omega) | exact y_ixE hin rfl rfl rfl rfl rfl rfl (by omega) (by omega) | exact y_ixI rfl rfl rfl rfl rfl (by assumption) rfl (by omega) (by omega))) rfl ?_
      refine d_take 7 rfl (by kernel_rfl) (by (first | exact y_fieldAddrB rfl rfl rfl rfl rfl rfl | exact y_fieldAddr rfl rfl rfl rfl rfl rfl)) rfl ?_
      refine d_take 8 rfl (by kernel_rfl) (by (first | exact y_ldF (v := .slice b.A b.ins.length b.c) hb.blk rfl rfl rfl (by omega) (by rw [hbk]; rfl) | exact y_ldE hin rfl rfl rfl (by omega) rfl | exact y_ldN rfl rfl rfl (by rfl) | exact y_ld rfl rfl rfl (by rfl) | exact y_ldN rfl rfl rfl (by rfl) | exact y_ldK rfl rfl rfl rfl (by assumption) (by omega) | exact y_ldI rfl rfl rfl rfl (by assumption) (by omega) (by omega))) rfl ?_
      refine d_take 9 rfl (by kernel_rfl) (by exact y_move rfl) rfl ?_
      refine d_take 10 rfl (by kernel_rfl) (by (first | exact y_ixE hb.blk rfl rfl rfl rfl rfl rfl (by omega) (by omega) | exact y_ixE hin rfl rfl rfl rfl rfl rfl (by omega) (by omega) | exact y_ixI rfl rfl rfl rfl rfl (by assumption) rfl (by omega) (by omega))) rfl ?_
      refine d_take 11 rfl (by kernel_rfl) (by (first | exact y_ldF (v := .slice b.A b.ins.length b.c) hb.blk rfl rfl rfl (by omega) (by rw [hbk]; rfl) | exact y_ldE hin rfl rfl rfl (by omega) rfl | exact y_ldN rfl rfl rfl (by rfl) | exact y_ld rfl rfl rfl (by rfl) | exact y_ldN rfl rfl rfl (by rfl) | exact y_ldK rfl rfl rfl rfl (by assumption) (by omega) | exact y_ldI rfl rfl rfl rfl (by assumption) (by omega) (by omega))) rfl ?_
      refine d_effM 12 [11, 10, 9, 8, 7, 6, 5, 4, 3, 2, 1, 0] [false, true, true, true, true, true, true, true, true, false, true, false] rfl (by kernel_rfl) rfl (by kernel_rfl) (fun K hK => ?_)
      refine s_call (pre := []) (rem := _) rfl rfl tk (fun w N ho hl => refIns_spec w N m A B c d f (b.ins.getD j .no) ho hm8.1 hm8.2.1 hfr.1 hfr.2 (by omega) (by omega)) rfl ?_
      rintro e L' ⟨rfl, rfl⟩
      try simp only [List.nil_append, List.cons_append, List.append_nil]
      refine s_done ?_
      refine hK _ _ (by refine rm_skip ?_; refine rm_yd rfl (by (first | exact y_ixE hb.blk rfl rfl rfl rfl rfl rfl (by omega) (by omega) | exact y_ixE hin rfl rfl rfl rfl rfl rfl (by omega) (by omega) | exact y_ixI rfl rfl rfl rfl rfl (by assumption) rfl (by omega) (by omega))) ?_; refine rm_yd rfl (by exact y_move rfl) ?_; refine rm_yd rfl (by (first | exact y_ldF (v := .slice b.A b.ins.length b.c) hb.blk rfl rfl rfl (by omega) (by rw [hbk]; rfl) | exact y_ldE hin rfl rfl rfl (by omega) rfl | exact y_ldN rfl rfl rfl (by rfl) | exact y_ld rfl rfl rfl (by rfl) | exact y_ldN rfl rfl rfl (by rfl) | exact y_ldK rfl rfl rfl rfl (by assumption) (by omega) | exact y_ldI rfl rfl rfl rfl (by assumption) (by omega) (by omega))) ?_; refine rm_yd rfl (by (first | exact y_fieldAddrB rfl rfl rfl rfl rfl rfl | exact y_fieldAddr rfl rfl rfl rfl rfl rfl)) ?_; refine rm_yd rfl (by (first | exact y_ixE hb.blk rfl rfl rfl rfl rfl rfl (by omega) (by omega) | exact y_ixE hin rfl rfl rfl rfl rfl rfl (by omega) (by omega) | exact y_ixI rfl rfl rfl rfl rfl (by assumption) rfl (by omega) (by omega))) ?_; refine rm_yd rfl (by exact y_move rfl) ?_; refine rm_yd rfl (by (first | exact y_ldF (v := .slice b.A b.ins.length b.c) hb.blk rfl rfl rfl (by omega) (by rw [hbk]; rfl) | exact y_ldE hin rfl rfl rfl (by omega) rfl | exact y_ldN rfl rfl rfl (by rfl) | exact y_ld rfl rfl rfl (by rfl) | exact y_ldN rfl rfl rfl (by rfl) | exact y_ldK rfl rfl rfl rfl (by assumption) (by omega) | exact y_ldI rfl rfl rfl rfl (by assumption) (by omega) (by omega))) ?_; refine rm_yd rfl (by (first | exact y_fieldAddrB rfl rfl rfl rfl rfl rfl | exact y_fieldAddr rfl rfl rfl rfl rfl rfl)) ?_; refine rm_skip ?_; refine rm_yd rfl (by (first | exact y_fieldAddrB rfl rfl rfl rfl rfl rfl | exact y_fieldAddr rfl rfl rfl rfl rfl rfl)) ?_; refine rm_skip ?_; exact rm_nil) ?_
      clear hK K
      refine d_take 13 rfl (by kernel_rfl) (by exact y_assign rfl) rfl ?_
      refine d_done (by kernel_rfl) ?_
      refine s_seq ?_
      refine s_region ?_
      refine s_q (y_move rfl) rfl ?_
      refine s_q (by (first | exact y_neq rfl rfl | exact y_neqB rfl rfl rfl)) rfl ?_
      refine s_done ?_
      refine s_cond rfl (fun h4 => ?_) (fun h4 => ?_)
      · rw [if_pos h4] at h2
        rw [← h2, if_pos h4] at h1
        refine s_seq ?_
        refine s_region ?_
        refine s_q (y_move rfl) rfl ?_
        refine s_q (y_assign rfl) rfl ?_
        refine s_done ?_
        exact s_return ⟨by rw [← h1], rfl⟩ (res_tmp Try.results16 rfl)
      · rw [if_neg h4] at h2
        refine s_skip ?_
        refine s_endb ?_
        refine s_region ?_
        refine s_q (y_move rfl) rfl ?_
        refine s_q (y_add rfl rfl (by omega)) rfl ?_
        refine s_q (y_assign rfl) rfl ?_
        refine s_done ?_
        refine s_inv (j + 1) ⟨(by (try dsimp only); omega), h2⟩ (by (try dsimp only); omega) ⟨rfl, rfl, rfl, rfl, trivial⟩ tk
    · have hjl : j = b.ins.length := by omega
      subst hjl
      rw [List.drop_length] at h2
      simp only [List.map_nil, List.nil_append, firstE] at h2
      have hterm : ∀ j, j < 4 → (encBlk b)[1 + j]? = [Value.int .i64 b.kind, .int .i64 b.a, .int .i64 b.t0, .int .i64 b.t1][j]? := fun j hj => by
        match j, hj with
        | 0, _ => rfl
        | 1, _ => rfl
        | 2, _ => rfl
        | 3, _ => rfl
      refine s_exit rfl ?_
      refine s_seq ?_
      refine d_start ?_
      refine d_take 0 rfl (by kernel_rfl) (by (first | exact y_ldFN (vs := [.int .i64 b.kind, .int .i64 b.a, .int .i64 b.t0, .int .i64 b.t1]) hb.blk rfl rfl rfl (by omega) rfl (by rw [hbk]; exact hterm) | exact y_ldN rfl rfl rfl (by rfl) | exact y_ld rfl rfl rfl (by rfl) | exact y_ldN rfl rfl rfl (by rfl) | exact y_ldK rfl rfl rfl rfl (by assumption) (by omega) | exact y_ldI rfl rfl rfl rfl (by assumption) (by omega) (by omega))) rfl ?_
      refine d_take 1 rfl (by kernel_rfl) (by (first | exact y_fieldAddrB rfl rfl rfl rfl rfl rfl | exact y_fieldAddr rfl rfl rfl rfl rfl rfl)) rfl ?_
      refine d_take 2 rfl (by kernel_rfl) (by (first | exact y_ldFN (vs := [.int .i64 b.kind, .int .i64 b.a, .int .i64 b.t0, .int .i64 b.t1]) hb.blk rfl rfl rfl (by omega) rfl (by rw [hbk]; exact hterm) | exact y_ldN rfl rfl rfl (by rfl) | exact y_ld rfl rfl rfl (by rfl) | exact y_ldN rfl rfl rfl (by rfl) | exact y_ldK rfl rfl rfl rfl (by assumption) (by omega) | exact y_ldI rfl rfl rfl rfl (by assumption) (by omega) (by omega))) rfl ?_
      refine d_take 3 rfl (by kernel_rfl) (by exact y_lenS rfl rfl rfl) rfl ?_
      refine d_take 4 rfl (by kernel_rfl) (by (first | exact y_fieldAddrB rfl rfl rfl rfl rfl rfl | exact y_fieldAddr rfl rfl rfl rfl rfl rfl)) rfl ?_
      refine d_take 5 rfl (by kernel_rfl) (by (first | exact y_ldFN (vs := [.int .i64 b.kind, .int .i64 b.a, .int .i64 b.t0, .int .i64 b.t1]) hb.blk rfl rfl rfl (by omega) rfl (by rw [hbk]; exact hterm) | exact y_ldN rfl rfl rfl (by rfl) | exact y_ld rfl rfl rfl (by rfl) | exact y_ldN rfl rfl rfl (by rfl) | exact y_ldK rfl rfl rfl rfl (by assumption) (by omega) | exact y_ldI rfl rfl rfl rfl (by assumption) (by omega) (by omega))) rfl ?_
      refine d_take 6 rfl (by kernel_rfl) (by exact y_move rfl) rfl ?_
      refine d_take 7 rfl (by kernel_rfl) (by (first | exact y_ixE hb.blk rfl rfl rfl rfl rfl rfl (by omega) (by omega) | exact y_ixI rfl rfl rfl rfl rfl (by assumption) rfl (by omega) (by omega))) rfl ?_
      refine d_take 8 rfl (by kernel_rfl) (by (first | exact y_fieldAddrB rfl rfl rfl rfl rfl rfl | exact y_fieldAddr rfl rfl rfl rfl rfl rfl)) rfl ?_
      refine d_take 9 rfl (by kernel_rfl) (by (first | exact y_ldFN (vs := [.int .i64 b.kind, .int .i64 b.a, .int .i64 b.t0, .int .i64 b.t1]) hb.blk rfl rfl rfl (by omega) rfl (by rw [hbk]; exact hterm) | exact y_ldN rfl rfl rfl (by rfl) | exact y_ld rfl rfl rfl (by rfl) | exact y_ldN rfl rfl rfl (by rfl) | exact y_ldK rfl rfl rfl rfl (by assumption) (by omega) | exact y_ldI rfl rfl rfl rfl (by assumption) (by omega) (by omega))) rfl ?_
      refine d_effM 10 [9, 8, 7, 6, 5, 4, 3, 2, 1, 0] [false, true, true, true, true, true, false, true, true, false] rfl (by kernel_rfl) rfl (by kernel_rfl) (fun K hK => ?_)
      refine s_call (pre := []) (rem := _) rfl rfl tk (fun w N ho hl => refTerm_spec w N m A B c d bs.length b ho hm8.1 hm8.2.1 (by omega) (by omega)) rfl ?_
      rintro e L' ⟨rfl, rfl⟩
      try simp only [List.nil_append, List.cons_append, List.append_nil]
      refine s_done ?_
      refine hK _ _ (by refine rm_skip ?_; refine rm_yd rfl (by (first | exact y_fieldAddrB rfl rfl rfl rfl rfl rfl | exact y_fieldAddr rfl rfl rfl rfl rfl rfl)) ?_; refine rm_yd rfl (by (first | exact y_ixE hb.blk rfl rfl rfl rfl rfl rfl (by omega) (by omega) | exact y_ixI rfl rfl rfl rfl rfl (by assumption) rfl (by omega) (by omega))) ?_; refine rm_yd rfl (by exact y_move rfl) ?_; refine rm_yd rfl (by (first | exact y_ldFN (vs := [.int .i64 b.kind, .int .i64 b.a, .int .i64 b.t0, .int .i64 b.t1]) hb.blk rfl rfl rfl (by omega) rfl (by rw [hbk]; exact hterm) | exact y_ldN rfl rfl rfl (by rfl) | exact y_ld rfl rfl rfl (by rfl) | exact y_ldN rfl rfl rfl (by rfl) | exact y_ldK rfl rfl rfl rfl (by assumption) (by omega) | exact y_ldI rfl rfl rfl rfl (by assumption) (by omega) (by omega))) ?_; refine rm_yd rfl (by (first | exact y_fieldAddrB rfl rfl rfl rfl rfl rfl | exact y_fieldAddr rfl rfl rfl rfl rfl rfl)) ?_; refine rm_skip ?_; refine rm_yd rfl (by (first | exact y_ldFN (vs := [.int .i64 b.kind, .int .i64 b.a, .int .i64 b.t0, .int .i64 b.t1]) hb.blk rfl rfl rfl (by omega) rfl (by rw [hbk]; exact hterm) | exact y_ldN rfl rfl rfl (by rfl) | exact y_ld rfl rfl rfl (by rfl) | exact y_ldN rfl rfl rfl (by rfl) | exact y_ldK rfl rfl rfl rfl (by assumption) (by omega) | exact y_ldI rfl rfl rfl rfl (by assumption) (by omega) (by omega))) ?_; refine rm_yd rfl (by (first | exact y_fieldAddrB rfl rfl rfl rfl rfl rfl | exact y_fieldAddr rfl rfl rfl rfl rfl rfl)) ?_; refine rm_skip ?_; exact rm_nil) ?_
      clear hK K
      refine d_take 11 rfl (by kernel_rfl) (by exact y_assign rfl) rfl ?_
      refine d_done (by kernel_rfl) ?_
      refine s_seq ?_
      refine s_region ?_
      refine s_q (y_move rfl) rfl ?_
      refine s_q (by (first | exact y_neq rfl rfl | exact y_neqB rfl rfl rfl)) rfl ?_
      refine s_done ?_
      refine s_cond rfl (fun h4 => ?_) (fun h4 => ?_)
      · rw [if_pos h4] at h2
        rw [← h2, if_pos h4] at h1
        refine s_seq ?_
        refine s_region ?_
        refine s_q (y_move rfl) rfl ?_
        refine s_q (y_assign rfl) rfl ?_
        refine s_done ?_
        exact s_return ⟨by rw [← h1], rfl⟩ (res_tmp Try.results16 rfl)
      · rw [if_neg h4] at h2
        rw [← h2, if_neg (by simp)] at h1
        refine s_skip ?_
        refine s_endb ?_
        refine s_region ?_
        refine s_q (y_move rfl) rfl ?_
        refine s_q (y_add rfl rfl (by omega)) rfl ?_
        refine s_q (y_assign rfl) rfl ?_
        refine s_done ?_
        refine s_inv (k + 1) ⟨(by (try dsimp only); omega), h1⟩ (by (try dsimp only); omega) ⟨rfl, rfl, rfl, trivial⟩ tk
  · have hkl : k = bs.length := by omega
    subst hkl
    rw [List.drop_length] at h1
    simp only [List.map_nil, firstE] at h1
    refine s_exit rfl ?_
    refine s_seq ?_
    refine s_region ?_
    refine s_q (y_assign rfl) rfl ?_
    refine s_done ?_
    exact s_return ⟨by rw [← h1], rfl⟩ (res_tmp Try.results16 rfl)
end Go.Proofs.Ytgpebcfeeagoaaa
