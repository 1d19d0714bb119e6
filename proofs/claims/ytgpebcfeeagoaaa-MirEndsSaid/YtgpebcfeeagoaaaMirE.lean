/- Layer 6 (mir): the contract of frame.ins. -/
import Derived.Test.YtgpebcfeeagoaaaMirD
import Derived.Test.YtgpebcfeeagoaaaEEb
set_option linter.unusedVariables false
set_option linter.unusedSimpArgs false
namespace Go.Proofs.Ytgpebcfeeagoaaa
open Go Go.E
set_option maxRecDepth 4000
set_option maxHeartbeats 1000000
/-- A number of 64 bits. -/
def i64 (x : Int) : Prop := -9223372036854775808 ≤ x ∧ x ≤ 9223372036854775807
theorem wrap_u64 (x : Int) : IntKind.u64.wrap x = x % 18446744073709551616 := by
  simp [IntKind.wrap, IntKind.bits, IntKind.signed]
structure InsD.ok (i : InsD) : Prop where
  imm : i64 i.imm
  callee : i64 i.callee
  many : i64 i.many
def bad1 (i : InsD) : Prop := hasP i.op = 0 ∨ 0 < i.xs.length ∨ (hasP i.op &&& 1 = 0 ∧ i.dst ≠ 0) ∨ (hasP i.op &&& 2 = 0 ∧ i.a ≠ 0) ∨ (hasP i.op &&& 4 = 0 ∧ i.b ≠ 0) ∨ (hasP i.op &&& 24 = 0 ∧ i.imm ≠ 0) ∨ (hasP i.op &&& 32 = 0 ∧ i.callee ≠ 0) ∨ (hasP i.op &&& 32 = 0 ∧ i.many ≠ 0)
instance (i : InsD) : Decidable (bad1 i) := by unfold bad1; infer_instance
def bad2 (n : Nat) (i : InsD) : Prop := (hasP i.op &&& 8 ≠ 0 ∧ (i.imm < -1099511627776 ∨ 1099511627776 < i.imm)) ∨ ¬ (0 ≤ i.callee ∧ i.callee ≤ 99) ∨ ¬ (0 ≤ i.many ∧ i.many ≤ n)
instance (n : Nat) (i : InsD) : Decidable (bad2 n i) := by unfold bad2; infer_instance
theorem insE_eq (r : Int) (n : Nat) (f : Int) (i : InsD) : insE r n f i = if bad1 i then 2 else if bad2 n i then 2 else if ¬ (inR r i.dst = true ∧ inR r i.a = true ∧ inR r i.b = true) then 10 else if hasP i.op &&& 16 ≠ 0 ∧ ¬ (0 ≤ i.imm ∧ i.imm < f) then 11 else 0 := rfl
theorem odd_true {p k : Nat} {x : Int} (h : (!decide (p &&& k ≠ 0) && decide (x ≠ 0)) = true) : p &&& k = 0 ∧ x ≠ 0 := by simpa using h
theorem odd_false {p k : Nat} {x : Int} (h : (!decide (p &&& k ≠ 0) && decide (x ≠ 0)) = false) : ¬ (p &&& k = 0 ∧ x ≠ 0) := by
  rintro ⟨h1, h2⟩; simp [h1, h2] at h
theorem ins_spec (w : World) (N : Nat → Prop) (m : MV) (A B : Option Addr) (c d : Nat) (sl bl : Int) (i : InsD) (ho : Owns w [] N) (hi : i.ok) (hn : m.args.length ≤ 8) (hsl : 0 ≤ sl ∧ sl ≤ 400) (hxl : i.xs.length < 100000000000000) :
    Ret Try.prog 36 [.agg (frv m A c B d sl bl).toArray, .agg (encIns i).toArray] w N fun v L => v = .int .i64 (insE m.regs m.args.length sl i) ∧ L = [] := by
  refine ret_of_J cx Try.func36 rfl (Nat.le_of_ble_eq_true rfl) ho ?_
  refine s_seq ?_
  refine s_region ?_
  first | (refine s_box1 rfl rfl rfl (fun bf => ?_)) | (refine s_boxA rfl rfl (fun bf => ?_))
  first | (refine s_box1 rfl rfl rfl (fun bi => ?_)) | (refine s_boxA rfl rfl (fun bi => ?_))
  change J _ _ _ (cb bi 30 (encIns i) :: cb bf 67 (frv m A c B d sl bl) :: _) _
  unfold encIns frv
  refine s_q (y_assign rfl) rfl ?_
  refine s_done ?_
  refine s_seq ?_
  refine s_region ?_
  refine s_q (by (first | exact y_fieldAddrB rfl rfl rfl rfl rfl rfl | exact y_fieldAddr rfl rfl rfl rfl rfl rfl)) rfl ?_
  refine s_q (by (first | exact y_ld rfl rfl rfl (by rfl) | exact y_ldN rfl rfl rfl (by rfl) | exact y_ldK rfl rfl rfl rfl (by assumption) (by omega) | exact y_ldI rfl rfl rfl rfl (by assumption) (by omega) (by omega))) rfl ?_
  refine s_call (pre := []) (rem := _) rfl rfl tk (fun w N ho hl => has_spec w N i.op ho) rfl ?_
  rintro e L' ⟨rfl, rfl⟩
  try simp only [List.nil_append, List.cons_append, List.append_nil]
  refine s_q (y_assign rfl) rfl ?_
  refine s_done ?_
  refine s_seq ?_
  refine s_block ?_
  refine s_seq ?_
  refine s_seq ?_
  refine s_region ?_
  refine s_q (y_move rfl) rfl ?_
  refine s_q (by (first | exact y_eql rfl rfl | exact y_eqlB rfl rfl rfl)) rfl ?_
  refine s_q (y_assign rfl) rfl ?_
  refine s_done ?_
  have hp := hasP_lt i.op
  refine s_joinV (σ := Bool) (fun s => [(9, .bool s)]) [] (fun s => []) (fun s => (s = decide (bad1 i))) [(2, _), (3, _), (5, _)] ⟨rfl, rfl, rfl, trivial⟩ tk (fun k' hr => ?_) ?_
  · refine s_cond rfl (fun h1 => ?_) (fun h1 => ?_)
    · refine s_skip ?_
      have hr' := hr (decide (((hasP i.op : Nat) : Int) = 0)) (by rw [decide_eq_true h1, decide_eq_true (.inl (by omega))])
      try dsimp only [List.cons_append, List.nil_append, List.append_nil] at hr'
      exact J.to hr' ⟨rfl, rfl, rfl, rfl, trivial⟩ tk
    · refine s_seq ?_
      refine s_region ?_
      refine s_q (by (first | exact y_fieldAddrB rfl rfl rfl rfl rfl rfl | exact y_fieldAddr rfl rfl rfl rfl rfl rfl)) rfl ?_
      refine s_q (by (first | exact y_ld rfl rfl rfl (by rfl) | exact y_ldN rfl rfl rfl (by rfl) | exact y_ldK rfl rfl rfl rfl (by assumption) (by omega) | exact y_ldI rfl rfl rfl rfl (by assumption) (by omega) (by omega))) rfl ?_
      refine s_q (y_lenS rfl rfl rfl) rfl ?_
      refine s_q (y_gtr rfl rfl) rfl ?_
      refine s_q (y_assign rfl) rfl ?_
      refine s_done ?_
      refine s_cond rfl (fun h2 => ?_) (fun h2 => ?_)
      · refine s_skip ?_
        have hr' := hr (decide ((0 : Int) < (i.xs.length : Int))) (by rw [decide_eq_true h2, decide_eq_true (.inr (.inl (by omega)))])
        try dsimp only [List.cons_append, List.nil_append, List.append_nil] at hr'
        exact J.to hr' ⟨rfl, rfl, rfl, rfl, trivial⟩ tk
      · refine s_seq ?_
        refine d_start ?_
        refine d_take 0 rfl (by kernel_rfl) (by exact y_move rfl) rfl ?_
        refine d_take 2 rfl (by kernel_rfl) (by (first | exact y_fieldAddrB rfl rfl rfl rfl rfl rfl | exact y_fieldAddr rfl rfl rfl rfl rfl rfl)) rfl ?_
        refine d_take 3 rfl (by kernel_rfl) (by (first | exact y_ld rfl rfl rfl (by rfl) | exact y_ldN rfl rfl rfl (by rfl) | exact y_ldK rfl rfl rfl rfl (by assumption) (by omega) | exact y_ldI rfl rfl rfl rfl (by assumption) (by omega) (by omega))) rfl ?_
        refine d_effM 1 [3, 2, 0] [true, true, false] rfl (by kernel_rfl) rfl (by kernel_rfl) (fun K hK => ?_)
        refine s_call (pre := []) (rem := _) rfl rfl tk (fun w N ho hl => with_spec w N (hasP i.op) 1 hp (by omega) ho) rfl ?_
        rintro e L' ⟨rfl, rfl⟩
        try simp only [List.nil_append, List.cons_append, List.append_nil]
        refine s_done ?_
        refine hK _ _ (by refine rm_yd rfl (by (first | exact y_ld rfl rfl rfl (by rfl) | exact y_ldN rfl rfl rfl (by rfl) | exact y_ldK rfl rfl rfl rfl (by assumption) (by omega) | exact y_ldI rfl rfl rfl rfl (by assumption) (by omega) (by omega))) ?_; refine rm_yd rfl (by (first | exact y_fieldAddrB rfl rfl rfl rfl rfl rfl | exact y_fieldAddr rfl rfl rfl rfl rfl rfl)) ?_; refine rm_skip ?_; exact rm_nil) ?_
        clear hK K
        refine d_effM 4 [3, 2] [false, true] rfl (by kernel_rfl) rfl (by kernel_rfl) (fun K hK => ?_)
        refine s_call (pre := []) (rem := _) rfl rfl tk (fun w N ho hl => odd_spec w N _ i.dst ho) rfl ?_
        rintro e L' ⟨rfl, rfl⟩
        try simp only [List.nil_append, List.cons_append, List.append_nil]
        refine s_done ?_
        refine hK _ _ (by refine rm_skip ?_; refine rm_yd rfl (by (first | exact y_fieldAddrB rfl rfl rfl rfl rfl rfl | exact y_fieldAddr rfl rfl rfl rfl rfl rfl)) ?_; exact rm_nil) ?_
        clear hK K
        refine d_take 5 rfl (by kernel_rfl) (by exact y_assign rfl) rfl ?_
        refine d_done (by kernel_rfl) ?_
        refine s_condb rfl (fun h3 => ?_) (fun h3 => ?_)
        · refine s_skip ?_
          have hr' := hr (!decide (hasP i.op &&& 1 ≠ 0) && decide (i.dst ≠ 0)) (by rw [h3, decide_eq_true (.inr (.inr (.inl (odd_true h3))))])
          try dsimp only [List.cons_append, List.nil_append, List.append_nil] at hr'
          exact J.to hr' ⟨rfl, rfl, rfl, rfl, trivial⟩ tk
        · refine s_seq ?_
          refine d_start ?_
          refine d_take 0 rfl (by kernel_rfl) (by exact y_move rfl) rfl ?_
          refine d_take 2 rfl (by kernel_rfl) (by (first | exact y_fieldAddrB rfl rfl rfl rfl rfl rfl | exact y_fieldAddr rfl rfl rfl rfl rfl rfl)) rfl ?_
          refine d_take 3 rfl (by kernel_rfl) (by (first | exact y_ld rfl rfl rfl (by rfl) | exact y_ldN rfl rfl rfl (by rfl) | exact y_ldK rfl rfl rfl rfl (by assumption) (by omega) | exact y_ldI rfl rfl rfl rfl (by assumption) (by omega) (by omega))) rfl ?_
          refine d_effM 1 [3, 2, 0] [true, true, false] rfl (by kernel_rfl) rfl (by kernel_rfl) (fun K hK => ?_)
          refine s_call (pre := []) (rem := _) rfl rfl tk (fun w N ho hl => with_spec w N (hasP i.op) 2 hp (by omega) ho) rfl ?_
          rintro e L' ⟨rfl, rfl⟩
          try simp only [List.nil_append, List.cons_append, List.append_nil]
          refine s_done ?_
          refine hK _ _ (by refine rm_yd rfl (by (first | exact y_ld rfl rfl rfl (by rfl) | exact y_ldN rfl rfl rfl (by rfl) | exact y_ldK rfl rfl rfl rfl (by assumption) (by omega) | exact y_ldI rfl rfl rfl rfl (by assumption) (by omega) (by omega))) ?_; refine rm_yd rfl (by (first | exact y_fieldAddrB rfl rfl rfl rfl rfl rfl | exact y_fieldAddr rfl rfl rfl rfl rfl rfl)) ?_; refine rm_skip ?_; exact rm_nil) ?_
          clear hK K
          refine d_effM 4 [3, 2] [false, true] rfl (by kernel_rfl) rfl (by kernel_rfl) (fun K hK => ?_)
          refine s_call (pre := []) (rem := _) rfl rfl tk (fun w N ho hl => odd_spec w N _ i.a ho) rfl ?_
          rintro e L' ⟨rfl, rfl⟩
          try simp only [List.nil_append, List.cons_append, List.append_nil]
          refine s_done ?_
          refine hK _ _ (by refine rm_skip ?_; refine rm_yd rfl (by (first | exact y_fieldAddrB rfl rfl rfl rfl rfl rfl | exact y_fieldAddr rfl rfl rfl rfl rfl rfl)) ?_; exact rm_nil) ?_
          clear hK K
          refine d_take 5 rfl (by kernel_rfl) (by exact y_assign rfl) rfl ?_
          refine d_done (by kernel_rfl) ?_
          refine s_condb rfl (fun h4 => ?_) (fun h4 => ?_)
          · refine s_skip ?_
            have hr' := hr (!decide (hasP i.op &&& 2 ≠ 0) && decide (i.a ≠ 0)) (by rw [h4, decide_eq_true (.inr (.inr (.inr (.inl (odd_true h4)))))])
            try dsimp only [List.cons_append, List.nil_append, List.append_nil] at hr'
            exact J.to hr' ⟨rfl, rfl, rfl, rfl, trivial⟩ tk
          · refine s_seq ?_
            refine d_start ?_
            refine d_take 0 rfl (by kernel_rfl) (by exact y_move rfl) rfl ?_
            refine d_take 2 rfl (by kernel_rfl) (by (first | exact y_fieldAddrB rfl rfl rfl rfl rfl rfl | exact y_fieldAddr rfl rfl rfl rfl rfl rfl)) rfl ?_
            refine d_take 3 rfl (by kernel_rfl) (by (first | exact y_ld rfl rfl rfl (by rfl) | exact y_ldN rfl rfl rfl (by rfl) | exact y_ldK rfl rfl rfl rfl (by assumption) (by omega) | exact y_ldI rfl rfl rfl rfl (by assumption) (by omega) (by omega))) rfl ?_
            refine d_effM 1 [3, 2, 0] [true, true, false] rfl (by kernel_rfl) rfl (by kernel_rfl) (fun K hK => ?_)
            refine s_call (pre := []) (rem := _) rfl rfl tk (fun w N ho hl => with_spec w N (hasP i.op) 4 hp (by omega) ho) rfl ?_
            rintro e L' ⟨rfl, rfl⟩
            try simp only [List.nil_append, List.cons_append, List.append_nil]
            refine s_done ?_
            refine hK _ _ (by refine rm_yd rfl (by (first | exact y_ld rfl rfl rfl (by rfl) | exact y_ldN rfl rfl rfl (by rfl) | exact y_ldK rfl rfl rfl rfl (by assumption) (by omega) | exact y_ldI rfl rfl rfl rfl (by assumption) (by omega) (by omega))) ?_; refine rm_yd rfl (by (first | exact y_fieldAddrB rfl rfl rfl rfl rfl rfl | exact y_fieldAddr rfl rfl rfl rfl rfl rfl)) ?_; refine rm_skip ?_; exact rm_nil) ?_
            clear hK K
            refine d_effM 4 [3, 2] [false, true] rfl (by kernel_rfl) rfl (by kernel_rfl) (fun K hK => ?_)
            refine s_call (pre := []) (rem := _) rfl rfl tk (fun w N ho hl => odd_spec w N _ i.b ho) rfl ?_
            rintro e L' ⟨rfl, rfl⟩
            try simp only [List.nil_append, List.cons_append, List.append_nil]
            refine s_done ?_
            refine hK _ _ (by refine rm_skip ?_; refine rm_yd rfl (by (first | exact y_fieldAddrB rfl rfl rfl rfl rfl rfl | exact y_fieldAddr rfl rfl rfl rfl rfl rfl)) ?_; exact rm_nil) ?_
            clear hK K
            refine d_take 5 rfl (by kernel_rfl) (by exact y_assign rfl) rfl ?_
            refine d_done (by kernel_rfl) ?_
            refine s_condb rfl (fun h5 => ?_) (fun h5 => ?_)
            · refine s_skip ?_
              have hr' := hr (!decide (hasP i.op &&& 4 ≠ 0) && decide (i.b ≠ 0)) (by rw [h5, decide_eq_true (.inr (.inr (.inr (.inr (.inl (odd_true h5))))))])
              try dsimp only [List.cons_append, List.nil_append, List.append_nil] at hr'
              exact J.to hr' ⟨rfl, rfl, rfl, rfl, trivial⟩ tk
            · refine s_seq ?_
              refine d_start ?_
              refine d_take 0 rfl (by kernel_rfl) (by exact y_move rfl) rfl ?_
              refine d_take 2 rfl (by kernel_rfl) (by (first | exact y_fieldAddrB rfl rfl rfl rfl rfl rfl | exact y_fieldAddr rfl rfl rfl rfl rfl rfl)) rfl ?_
              refine d_take 3 rfl (by kernel_rfl) (by (first | exact y_ld rfl rfl rfl (by rfl) | exact y_ldN rfl rfl rfl (by rfl) | exact y_ldK rfl rfl rfl rfl (by assumption) (by omega) | exact y_ldI rfl rfl rfl rfl (by assumption) (by omega) (by omega))) rfl ?_
              refine d_effM 1 [3, 2, 0] [true, true, false] rfl (by kernel_rfl) rfl (by kernel_rfl) (fun K hK => ?_)
              refine s_call (pre := []) (rem := _) rfl rfl tk (fun w N ho hl => with_spec w N (hasP i.op) 24 hp (by omega) ho) rfl ?_
              rintro e L' ⟨rfl, rfl⟩
              try simp only [List.nil_append, List.cons_append, List.append_nil]
              refine s_done ?_
              refine hK _ _ (by refine rm_yd rfl (by (first | exact y_ld rfl rfl rfl (by rfl) | exact y_ldN rfl rfl rfl (by rfl) | exact y_ldK rfl rfl rfl rfl (by assumption) (by omega) | exact y_ldI rfl rfl rfl rfl (by assumption) (by omega) (by omega))) ?_; refine rm_yd rfl (by (first | exact y_fieldAddrB rfl rfl rfl rfl rfl rfl | exact y_fieldAddr rfl rfl rfl rfl rfl rfl)) ?_; refine rm_skip ?_; exact rm_nil) ?_
              clear hK K
              refine d_effM 4 [3, 2] [false, true] rfl (by kernel_rfl) rfl (by kernel_rfl) (fun K hK => ?_)
              refine s_call (pre := []) (rem := _) rfl rfl tk (fun w N ho hl => odd_spec w N _ i.imm ho) rfl ?_
              rintro e L' ⟨rfl, rfl⟩
              try simp only [List.nil_append, List.cons_append, List.append_nil]
              refine s_done ?_
              refine hK _ _ (by refine rm_skip ?_; refine rm_yd rfl (by (first | exact y_fieldAddrB rfl rfl rfl rfl rfl rfl | exact y_fieldAddr rfl rfl rfl rfl rfl rfl)) ?_; exact rm_nil) ?_
              clear hK K
              refine d_take 5 rfl (by kernel_rfl) (by exact y_assign rfl) rfl ?_
              refine d_done (by kernel_rfl) ?_
              refine s_condb rfl (fun h6 => ?_) (fun h6 => ?_)
              · refine s_skip ?_
                have hr' := hr (!decide (hasP i.op &&& 24 ≠ 0) && decide (i.imm ≠ 0)) (by rw [h6, decide_eq_true (.inr (.inr (.inr (.inr (.inr (.inl (odd_true h6)))))))])
                try dsimp only [List.cons_append, List.nil_append, List.append_nil] at hr'
                exact J.to hr' ⟨rfl, rfl, rfl, rfl, trivial⟩ tk
              · refine s_seq ?_
                refine d_start ?_
                refine d_take 0 rfl (by kernel_rfl) (by exact y_move rfl) rfl ?_
                refine d_take 2 rfl (by kernel_rfl) (by (first | exact y_fieldAddrB rfl rfl rfl rfl rfl rfl | exact y_fieldAddr rfl rfl rfl rfl rfl rfl)) rfl ?_
                refine d_take 3 rfl (by kernel_rfl) (by (first | exact y_ld rfl rfl rfl (by rfl) | exact y_ldN rfl rfl rfl (by rfl) | exact y_ldK rfl rfl rfl rfl (by assumption) (by omega) | exact y_ldI rfl rfl rfl rfl (by assumption) (by omega) (by omega))) rfl ?_
                refine d_effM 1 [3, 2, 0] [true, true, false] rfl (by kernel_rfl) rfl (by kernel_rfl) (fun K hK => ?_)
                refine s_call (pre := []) (rem := _) rfl rfl tk (fun w N ho hl => with_spec w N (hasP i.op) 32 hp (by omega) ho) rfl ?_
                rintro e L' ⟨rfl, rfl⟩
                try simp only [List.nil_append, List.cons_append, List.append_nil]
                refine s_done ?_
                refine hK _ _ (by refine rm_yd rfl (by (first | exact y_ld rfl rfl rfl (by rfl) | exact y_ldN rfl rfl rfl (by rfl) | exact y_ldK rfl rfl rfl rfl (by assumption) (by omega) | exact y_ldI rfl rfl rfl rfl (by assumption) (by omega) (by omega))) ?_; refine rm_yd rfl (by (first | exact y_fieldAddrB rfl rfl rfl rfl rfl rfl | exact y_fieldAddr rfl rfl rfl rfl rfl rfl)) ?_; refine rm_skip ?_; exact rm_nil) ?_
                clear hK K
                refine d_effM 4 [3, 2] [false, true] rfl (by kernel_rfl) rfl (by kernel_rfl) (fun K hK => ?_)
                refine s_call (pre := []) (rem := _) rfl rfl tk (fun w N ho hl => odd_spec w N _ i.callee ho) rfl ?_
                rintro e L' ⟨rfl, rfl⟩
                try simp only [List.nil_append, List.cons_append, List.append_nil]
                refine s_done ?_
                refine hK _ _ (by refine rm_skip ?_; refine rm_yd rfl (by (first | exact y_fieldAddrB rfl rfl rfl rfl rfl rfl | exact y_fieldAddr rfl rfl rfl rfl rfl rfl)) ?_; exact rm_nil) ?_
                clear hK K
                refine d_take 5 rfl (by kernel_rfl) (by exact y_assign rfl) rfl ?_
                refine d_done (by kernel_rfl) ?_
                refine s_condb rfl (fun h7 => ?_) (fun h7 => ?_)
                · refine s_skip ?_
                  have hr' := hr (!decide (hasP i.op &&& 32 ≠ 0) && decide (i.callee ≠ 0)) (by rw [h7, decide_eq_true (.inr (.inr (.inr (.inr (.inr (.inr (.inl (odd_true h7))))))))])
                  try dsimp only [List.cons_append, List.nil_append, List.append_nil] at hr'
                  exact J.to hr' ⟨rfl, rfl, rfl, rfl, trivial⟩ tk
                · skip
                  refine d_start ?_
                  refine d_take 0 rfl (by kernel_rfl) (by exact y_move rfl) rfl ?_
                  refine d_take 2 rfl (by kernel_rfl) (by (first | exact y_fieldAddrB rfl rfl rfl rfl rfl rfl | exact y_fieldAddr rfl rfl rfl rfl rfl rfl)) rfl ?_
                  refine d_take 3 rfl (by kernel_rfl) (by (first | exact y_ld rfl rfl rfl (by rfl) | exact y_ldN rfl rfl rfl (by rfl) | exact y_ldK rfl rfl rfl rfl (by assumption) (by omega) | exact y_ldI rfl rfl rfl rfl (by assumption) (by omega) (by omega))) rfl ?_
                  refine d_effM 1 [3, 2, 0] [true, true, false] rfl (by kernel_rfl) rfl (by kernel_rfl) (fun K hK => ?_)
                  refine s_call (pre := []) (rem := _) rfl rfl tk (fun w N ho hl => with_spec w N (hasP i.op) 32 hp (by omega) ho) rfl ?_
                  rintro e L' ⟨rfl, rfl⟩
                  try simp only [List.nil_append, List.cons_append, List.append_nil]
                  refine s_done ?_
                  refine hK _ _ (by refine rm_yd rfl (by (first | exact y_ld rfl rfl rfl (by rfl) | exact y_ldN rfl rfl rfl (by rfl) | exact y_ldK rfl rfl rfl rfl (by assumption) (by omega) | exact y_ldI rfl rfl rfl rfl (by assumption) (by omega) (by omega))) ?_; refine rm_yd rfl (by (first | exact y_fieldAddrB rfl rfl rfl rfl rfl rfl | exact y_fieldAddr rfl rfl rfl rfl rfl rfl)) ?_; refine rm_skip ?_; exact rm_nil) ?_
                  clear hK K
                  refine d_effM 4 [3, 2] [false, true] rfl (by kernel_rfl) rfl (by kernel_rfl) (fun K hK => ?_)
                  refine s_call (pre := []) (rem := _) rfl rfl tk (fun w N ho hl => odd_spec w N _ i.many ho) rfl ?_
                  rintro e L' ⟨rfl, rfl⟩
                  try simp only [List.nil_append, List.cons_append, List.append_nil]
                  refine s_done ?_
                  refine hK _ _ (by refine rm_skip ?_; refine rm_yd rfl (by (first | exact y_fieldAddrB rfl rfl rfl rfl rfl rfl | exact y_fieldAddr rfl rfl rfl rfl rfl rfl)) ?_; exact rm_nil) ?_
                  clear hK K
                  refine d_take 5 rfl (by kernel_rfl) (by exact y_assign rfl) rfl ?_
                  refine d_done (by kernel_rfl) ?_
                  have hfin : (!decide (hasP i.op &&& 32 ≠ 0) && decide (i.many ≠ 0)) = decide (bad1 i) := by
                    rw [Bool.eq_iff_iff, decide_eq_true_iff]
                    refine ⟨fun h => (.inr (.inr (.inr (.inr (.inr (.inr (.inr (odd_true h)))))))), fun h => ?_⟩
                    rcases h with h | h | h | h | h | h | h | h
                    · exact absurd h (by omega)
                    · exact absurd h (by omega)
                    · exact absurd h (odd_false h3)
                    · exact absurd h (odd_false h4)
                    · exact absurd h (odd_false h5)
                    · exact absurd h (odd_false h6)
                    · exact absurd h (odd_false h7)
                    · simp [h.1, h.2]
                  have hr' := hr (!decide (hasP i.op &&& 32 ≠ 0) && decide (i.many ≠ 0)) hfin
                  try dsimp only [List.cons_append, List.nil_append, List.append_nil] at hr'
                  exact J.to hr' ⟨rfl, rfl, rfl, rfl, trivial⟩ tk
  rintro b hb
  dsimp only [List.cons_append, List.nil_append]
  cases b with
  | true =>
    have hb1 : bad1 i := of_decide_eq_true hb.symm
    refine s_condT2 rfl (by with_reducible rfl) ?_
    refine s_seq ?_
    refine s_region ?_
    refine s_q (y_assign rfl) rfl ?_
    refine s_done ?_
    exact s_return ⟨by rw [insE_eq, if_pos hb1], rfl⟩ (res_tmp Try.results36 rfl)
  | false =>
  have hb1 : ¬ bad1 i := of_decide_eq_false hb.symm
  clear hb
  have wc : IntKind.u64.wrap i.callee = i.callee % 18446744073709551616 := wrap_u64 _
  have wm : IntKind.u64.wrap i.many = i.many % 18446744073709551616 := wrap_u64 _
  have wn : IntKind.u64.wrap (m.args.length : Int) = (m.args.length : Int) := by rw [wrap_u64]; omega
  have hi1 := hi.callee
  have hi2 := hi.many
  have hi3 := hi.imm
  unfold i64 at hi1 hi2 hi3
  refine s_condF2 rfl (by with_reducible rfl) ?_
  refine s_seq ?_
  refine s_joinV (σ := Bool) (fun s => [(46, .bool s)]) [] (fun s => []) (fun s => (s = decide (bad2 m.args.length i))) [(2, _), (3, _), (5, _)] ⟨rfl, rfl, rfl, trivial⟩ tk (fun k' hr => ?_) ?_
  · refine s_seq ?_
    refine s_region ?_
    refine s_q (y_move rfl) rfl ?_
    refine s_call (pre := []) (rem := _) rfl rfl tk (fun w N ho hl => with_spec w N (hasP i.op) 8 hp (by omega) ho) rfl ?_
    rintro e L' ⟨rfl, rfl⟩
    try simp only [List.nil_append, List.cons_append, List.append_nil]
    have tail : ∀ b0 : Bool, (b0 = true → bad2 m.args.length i) → (b0 = false → ¬ (hasP i.op &&& 8 ≠ 0 ∧ (i.imm < -1099511627776 ∨ 1099511627776 < i.imm))) → True := fun _ _ _ => trivial
    by_cases e8 : hasP i.op &&& 8 ≠ 0
    · rw [decide_eq_true e8]
      by_cases e9 : i.imm < -1099511627776
      · refine s_q (y_move rfl) rfl ?_
        refine s_guard2 rfl rfl (by with_reducible rfl) ?_
        refine s_q (by (first | exact y_fieldAddrB rfl rfl rfl rfl rfl rfl | exact y_fieldAddr rfl rfl rfl rfl rfl rfl)) rfl ?_
        refine s_guard2 rfl rfl (by with_reducible rfl) ?_
        refine s_q (by (first | exact y_ld rfl rfl rfl (by rfl) | exact y_ldN rfl rfl rfl (by rfl) | exact y_ldK rfl rfl rfl rfl (by assumption) (by omega) | exact y_ldI rfl rfl rfl rfl (by assumption) (by omega) (by omega))) rfl ?_
        refine s_guard2 rfl rfl (by with_reducible rfl) ?_
        refine s_q (by (first | exact y_as (y_lss rfl rfl) (congrArg Value.bool (decide_eq_true e9)) | exact y_lss rfl rfl)) rfl ?_
        refine s_guard2 rfl rfl (by with_reducible rfl) ?_
        refine s_q (y_move rfl) rfl ?_
        refine s_unguard2 (b := true) rfl rfl (by with_reducible rfl) rfl rfl ?_
        refine s_unguard2 (b := true) rfl rfl (by with_reducible rfl) rfl rfl ?_
        refine s_unguard2 (b := true) rfl rfl (by with_reducible rfl) rfl rfl ?_
        refine s_guard2 rfl rfl (by with_reducible rfl) ?_
        refine s_q (by (first | exact y_pickT rfl rfl | exact y_pickF rfl rfl)) rfl ?_
        refine s_q (by (first | exact y_pickT rfl rfl | exact y_pickF rfl rfl)) rfl ?_
        refine s_q (y_assign rfl) rfl ?_
        refine s_done ?_
        refine s_condT2 rfl (by with_reducible rfl) ?_
        refine s_skip ?_
        have hr' := hr true ((decide_eq_true (.inl ⟨e8, .inl e9⟩)).symm)
        try dsimp only [List.cons_append, List.nil_append, List.append_nil] at hr'
        exact J.to hr' ⟨rfl, rfl, rfl, rfl, trivial⟩ tk
      by_cases e10 : 1099511627776 < i.imm
      · refine s_q (y_move rfl) rfl ?_
        refine s_guard2 rfl rfl (by with_reducible rfl) ?_
        refine s_q (by (first | exact y_fieldAddrB rfl rfl rfl rfl rfl rfl | exact y_fieldAddr rfl rfl rfl rfl rfl rfl)) rfl ?_
        refine s_guard2 rfl rfl (by with_reducible rfl) ?_
        refine s_q (by (first | exact y_ld rfl rfl rfl (by rfl) | exact y_ldN rfl rfl rfl (by rfl) | exact y_ldK rfl rfl rfl rfl (by assumption) (by omega) | exact y_ldI rfl rfl rfl rfl (by assumption) (by omega) (by omega))) rfl ?_
        refine s_guard2 rfl rfl (by with_reducible rfl) ?_
        refine s_q (by (first | exact y_as (y_lss rfl rfl) (congrArg Value.bool (decide_eq_false e9)) | exact y_lss rfl rfl)) rfl ?_
        refine s_guard2 rfl rfl (by with_reducible rfl) ?_
        refine s_q (y_move rfl) rfl ?_
        refine s_guard2 rfl rfl (by with_reducible rfl) ?_
        refine s_q (by (first | exact y_fieldAddrB rfl rfl rfl rfl rfl rfl | exact y_fieldAddr rfl rfl rfl rfl rfl rfl)) rfl ?_
        refine s_guard2 rfl rfl (by with_reducible rfl) ?_
        refine s_q (by (first | exact y_ld rfl rfl rfl (by rfl) | exact y_ldN rfl rfl rfl (by rfl) | exact y_ldK rfl rfl rfl rfl (by assumption) (by omega) | exact y_ldI rfl rfl rfl rfl (by assumption) (by omega) (by omega))) rfl ?_
        refine s_guard2 rfl rfl (by with_reducible rfl) ?_
        refine s_q (by (first | exact y_as (y_gtr rfl rfl) (congrArg Value.bool (decide_eq_true e10)) | exact y_gtr rfl rfl)) rfl ?_
        refine s_guard2 rfl rfl (by with_reducible rfl) ?_
        refine s_q (by (first | exact y_pickT rfl rfl | exact y_pickF rfl rfl)) rfl ?_
        refine s_q (by (first | exact y_pickT rfl rfl | exact y_pickF rfl rfl)) rfl ?_
        refine s_q (y_assign rfl) rfl ?_
        refine s_done ?_
        refine s_condT2 rfl (by with_reducible rfl) ?_
        refine s_skip ?_
        have hr' := hr true ((decide_eq_true (.inl ⟨e8, .inr e10⟩)).symm)
        try dsimp only [List.cons_append, List.nil_append, List.append_nil] at hr'
        exact J.to hr' ⟨rfl, rfl, rfl, rfl, trivial⟩ tk
      refine s_q (y_move rfl) rfl ?_
      refine s_guard2 rfl rfl (by with_reducible rfl) ?_
      refine s_q (by (first | exact y_fieldAddrB rfl rfl rfl rfl rfl rfl | exact y_fieldAddr rfl rfl rfl rfl rfl rfl)) rfl ?_
      refine s_guard2 rfl rfl (by with_reducible rfl) ?_
      refine s_q (by (first | exact y_ld rfl rfl rfl (by rfl) | exact y_ldN rfl rfl rfl (by rfl) | exact y_ldK rfl rfl rfl rfl (by assumption) (by omega) | exact y_ldI rfl rfl rfl rfl (by assumption) (by omega) (by omega))) rfl ?_
      refine s_guard2 rfl rfl (by with_reducible rfl) ?_
      refine s_q (by (first | exact y_as (y_lss rfl rfl) (congrArg Value.bool (decide_eq_false e9)) | exact y_lss rfl rfl)) rfl ?_
      refine s_guard2 rfl rfl (by with_reducible rfl) ?_
      refine s_q (y_move rfl) rfl ?_
      refine s_guard2 rfl rfl (by with_reducible rfl) ?_
      refine s_q (by (first | exact y_fieldAddrB rfl rfl rfl rfl rfl rfl | exact y_fieldAddr rfl rfl rfl rfl rfl rfl)) rfl ?_
      refine s_guard2 rfl rfl (by with_reducible rfl) ?_
      refine s_q (by (first | exact y_ld rfl rfl rfl (by rfl) | exact y_ldN rfl rfl rfl (by rfl) | exact y_ldK rfl rfl rfl rfl (by assumption) (by omega) | exact y_ldI rfl rfl rfl rfl (by assumption) (by omega) (by omega))) rfl ?_
      refine s_guard2 rfl rfl (by with_reducible rfl) ?_
      refine s_q (by (first | exact y_as (y_gtr rfl rfl) (congrArg Value.bool (decide_eq_false e10)) | exact y_gtr rfl rfl)) rfl ?_
      refine s_guard2 rfl rfl (by with_reducible rfl) ?_
      refine s_q (by (first | exact y_pickT rfl rfl | exact y_pickF rfl rfl)) rfl ?_
      refine s_q (by (first | exact y_pickT rfl rfl | exact y_pickF rfl rfl)) rfl ?_
      refine s_q (y_assign rfl) rfl ?_
      refine s_done ?_
      refine s_condF2 rfl (by with_reducible rfl) ?_
      refine s_seq ?_
      refine s_region ?_
      refine s_q (by (first | exact y_fieldAddrB rfl rfl rfl rfl rfl rfl | exact y_fieldAddr rfl rfl rfl rfl rfl rfl)) rfl ?_
      refine s_q (by (first | exact y_ld rfl rfl rfl (by rfl) | exact y_ldN rfl rfl rfl (by rfl) | exact y_ldK rfl rfl rfl rfl (by assumption) (by omega) | exact y_ldI rfl rfl rfl rfl (by assumption) (by omega) (by omega))) rfl ?_
      refine s_q (y_as (y_convertI (m := i.callee) rfl rfl rfl) (congrArg (Value.int .u64) wc)) rfl ?_
      refine s_q (by (first | exact y_as (y_gtr rfl rfl) (congrArg Value.bool (decide_eq_false e10)) | exact y_gtr rfl rfl)) rfl ?_
      refine s_q (y_assign rfl) rfl ?_
      refine s_done ?_
      refine s_cond rfl (fun h3 => ?_) (fun h3 => ?_)
      · refine s_skip ?_
        have hr' := hr (decide ((99 : Int) < i.callee % 18446744073709551616)) (by rw [decide_eq_true h3, decide_eq_true (.inr (.inl (by omega)))])
        try dsimp only [List.cons_append, List.nil_append, List.append_nil] at hr'
        exact J.to hr' ⟨rfl, rfl, rfl, rfl, trivial⟩ tk
      · refine s_region ?_
        refine s_q (by (first | exact y_fieldAddrB rfl rfl rfl rfl rfl rfl | exact y_fieldAddr rfl rfl rfl rfl rfl rfl)) rfl ?_
        refine s_q (by (first | exact y_ld rfl rfl rfl (by rfl) | exact y_ldN rfl rfl rfl (by rfl) | exact y_ldK rfl rfl rfl rfl (by assumption) (by omega) | exact y_ldI rfl rfl rfl rfl (by assumption) (by omega) (by omega))) rfl ?_
        refine s_q (by (first | exact y_as (y_convertI (m := i.many) rfl rfl rfl) (congrArg (Value.int .u64) wm) | exact y_as (y_convertI (m := (m.args.length : Int)) rfl rfl rfl) (congrArg (Value.int .u64) wn))) rfl ?_
        refine s_q (by (first | exact y_fieldAddrB rfl rfl rfl rfl rfl rfl | exact y_fieldAddr rfl rfl rfl rfl rfl rfl)) rfl ?_
        refine s_q (by (first | exact y_fieldAddrB rfl rfl rfl rfl rfl rfl | exact y_fieldAddr rfl rfl rfl rfl rfl rfl)) rfl ?_
        refine s_q (by (first | exact y_ld rfl rfl rfl (by rfl) | exact y_ldN rfl rfl rfl (by rfl) | exact y_ldK rfl rfl rfl rfl (by assumption) (by omega) | exact y_ldI rfl rfl rfl rfl (by assumption) (by omega) (by omega))) rfl ?_
        refine s_q (y_lenS rfl rfl rfl) rfl ?_
        refine s_q (by (first | exact y_as (y_convertI (m := i.many) rfl rfl rfl) (congrArg (Value.int .u64) wm) | exact y_as (y_convertI (m := (m.args.length : Int)) rfl rfl rfl) (congrArg (Value.int .u64) wn))) rfl ?_
        refine s_q (y_gtr rfl rfl) rfl ?_
        refine s_q (y_assign rfl) rfl ?_
        refine s_done ?_
        have hr' := hr (decide ((m.args.length : Int) < i.many % 18446744073709551616)) (by rw [Bool.eq_iff_iff, decide_eq_true_iff, decide_eq_true_iff]; unfold bad2; omega)
        try dsimp only [List.cons_append, List.nil_append, List.append_nil] at hr'
        exact J.to hr' ⟨rfl, rfl, rfl, rfl, trivial⟩ tk
    · rw [decide_eq_false e8]
      refine s_q (y_move rfl) rfl ?_
      refine s_unguard2 (b := false) rfl rfl (by with_reducible rfl) rfl rfl ?_
      refine s_unguard2 (b := false) rfl rfl (by with_reducible rfl) rfl rfl ?_
      refine s_unguard2 (b := false) rfl rfl (by with_reducible rfl) rfl rfl ?_
      refine s_unguard2 (b := false) rfl rfl (by with_reducible rfl) rfl rfl ?_
      refine s_unguardU rfl rfl rfl ?_
      refine s_unguardU rfl rfl rfl ?_
      refine s_unguardU rfl rfl rfl ?_
      refine s_unguard2 (b := false) rfl rfl (by with_reducible rfl) rfl rfl ?_
      refine s_q (by (first | exact y_pickT rfl rfl | exact y_pickF rfl rfl)) rfl ?_
      refine s_q (y_assign rfl) rfl ?_
      refine s_done ?_
      refine s_condF2 rfl (by with_reducible rfl) ?_
      refine s_seq ?_
      refine s_region ?_
      refine s_q (by (first | exact y_fieldAddrB rfl rfl rfl rfl rfl rfl | exact y_fieldAddr rfl rfl rfl rfl rfl rfl)) rfl ?_
      refine s_q (by (first | exact y_ld rfl rfl rfl (by rfl) | exact y_ldN rfl rfl rfl (by rfl) | exact y_ldK rfl rfl rfl rfl (by assumption) (by omega) | exact y_ldI rfl rfl rfl rfl (by assumption) (by omega) (by omega))) rfl ?_
      refine s_q (y_as (y_convertI (m := i.callee) rfl rfl rfl) (congrArg (Value.int .u64) wc)) rfl ?_
      refine s_q (y_gtr rfl rfl) rfl ?_
      refine s_q (y_assign rfl) rfl ?_
      refine s_done ?_
      refine s_cond rfl (fun h3 => ?_) (fun h3 => ?_)
      · refine s_skip ?_
        have hr' := hr (decide ((99 : Int) < i.callee % 18446744073709551616)) (by rw [decide_eq_true h3, decide_eq_true (.inr (.inl (by omega)))])
        try dsimp only [List.cons_append, List.nil_append, List.append_nil] at hr'
        exact J.to hr' ⟨rfl, rfl, rfl, rfl, trivial⟩ tk
      · refine s_region ?_
        refine s_q (by (first | exact y_fieldAddrB rfl rfl rfl rfl rfl rfl | exact y_fieldAddr rfl rfl rfl rfl rfl rfl)) rfl ?_
        refine s_q (by (first | exact y_ld rfl rfl rfl (by rfl) | exact y_ldN rfl rfl rfl (by rfl) | exact y_ldK rfl rfl rfl rfl (by assumption) (by omega) | exact y_ldI rfl rfl rfl rfl (by assumption) (by omega) (by omega))) rfl ?_
        refine s_q (by (first | exact y_as (y_convertI (m := i.many) rfl rfl rfl) (congrArg (Value.int .u64) wm) | exact y_as (y_convertI (m := (m.args.length : Int)) rfl rfl rfl) (congrArg (Value.int .u64) wn))) rfl ?_
        refine s_q (by (first | exact y_fieldAddrB rfl rfl rfl rfl rfl rfl | exact y_fieldAddr rfl rfl rfl rfl rfl rfl)) rfl ?_
        refine s_q (by (first | exact y_fieldAddrB rfl rfl rfl rfl rfl rfl | exact y_fieldAddr rfl rfl rfl rfl rfl rfl)) rfl ?_
        refine s_q (by (first | exact y_ld rfl rfl rfl (by rfl) | exact y_ldN rfl rfl rfl (by rfl) | exact y_ldK rfl rfl rfl rfl (by assumption) (by omega) | exact y_ldI rfl rfl rfl rfl (by assumption) (by omega) (by omega))) rfl ?_
        refine s_q (y_lenS rfl rfl rfl) rfl ?_
        refine s_q (by (first | exact y_as (y_convertI (m := i.many) rfl rfl rfl) (congrArg (Value.int .u64) wm) | exact y_as (y_convertI (m := (m.args.length : Int)) rfl rfl rfl) (congrArg (Value.int .u64) wn))) rfl ?_
        refine s_q (y_gtr rfl rfl) rfl ?_
        refine s_q (y_assign rfl) rfl ?_
        refine s_done ?_
        have hr' := hr (decide ((m.args.length : Int) < i.many % 18446744073709551616)) (by rw [Bool.eq_iff_iff, decide_eq_true_iff, decide_eq_true_iff]; unfold bad2; omega)
        try dsimp only [List.cons_append, List.nil_append, List.append_nil] at hr'
        exact J.to hr' ⟨rfl, rfl, rfl, rfl, trivial⟩ tk
  rintro b hb
  dsimp only [List.cons_append, List.nil_append]
  cases b with
  | true =>
    have hb2 : bad2 m.args.length i := of_decide_eq_true hb.symm
    refine s_condT2 rfl (by with_reducible rfl) ?_
    refine s_seq ?_
    refine s_region ?_
    refine s_q (y_assign rfl) rfl ?_
    refine s_done ?_
    exact s_return ⟨by rw [insE_eq, if_neg hb1, if_pos hb2], rfl⟩ (res_tmp Try.results36 rfl)
  | false =>
  have hb2 : ¬ bad2 m.args.length i := of_decide_eq_false hb.symm
  clear hb
  refine s_condF2 rfl (by with_reducible rfl) ?_
  refine s_seq ?_
  refine s_region ?_
  refine s_q (by (first | exact y_ld rfl rfl rfl (by rfl) | exact y_ldN rfl rfl rfl (by rfl) | exact y_ldK rfl rfl rfl rfl (by assumption) (by omega) | exact y_ldI rfl rfl rfl rfl (by assumption) (by omega) (by omega))) rfl ?_
  refine s_q (by (first | exact y_fieldAddrB rfl rfl rfl rfl rfl rfl | exact y_fieldAddr rfl rfl rfl rfl rfl rfl)) rfl ?_
  refine s_q (by (first | exact y_ld rfl rfl rfl (by rfl) | exact y_ldN rfl rfl rfl (by rfl) | exact y_ldK rfl rfl rfl rfl (by assumption) (by omega) | exact y_ldI rfl rfl rfl rfl (by assumption) (by omega) (by omega))) rfl ?_
  refine s_q (by (first | exact y_fieldAddrB rfl rfl rfl rfl rfl rfl | exact y_fieldAddr rfl rfl rfl rfl rfl rfl)) rfl ?_
  refine s_q (by (first | exact y_ld rfl rfl rfl (by rfl) | exact y_ldN rfl rfl rfl (by rfl) | exact y_ldK rfl rfl rfl rfl (by assumption) (by omega) | exact y_ldI rfl rfl rfl rfl (by assumption) (by omega) (by omega))) rfl ?_
  refine s_q (by (first | exact y_fieldAddrB rfl rfl rfl rfl rfl rfl | exact y_fieldAddr rfl rfl rfl rfl rfl rfl)) rfl ?_
  refine s_q (by (first | exact y_ld rfl rfl rfl (by rfl) | exact y_ldN rfl rfl rfl (by rfl) | exact y_ldK rfl rfl rfl rfl (by assumption) (by omega) | exact y_ldI rfl rfl rfl rfl (by assumption) (by omega) (by omega))) rfl ?_
  refine s_bslice rfl rfl rfl rfl rfl rfl rfl rfl (fun b80 => ?_)
  change J _ _ _ (cb b80 3 (ints [i.dst, i.a, i.b]) :: _) _
  refine s_call (pre := []) (rem := _) rfl rfl tk (fun w N ho hl => regs_spec w N m A B (some ⟨b80, 0, none⟩) c d 3 sl bl [i.dst, i.a, i.b] ho (kiOfCO hl (by repeat (first | exact List.mem_cons_self | refine List.mem_cons_of_mem _ ?_)) rfl) (by simp)) rfl ?_
  rintro e L' ⟨rfl, rfl⟩
  try simp only [List.nil_append, List.cons_append, List.append_nil]
  have hall : [i.dst, i.a, i.b].all (inR m.regs) = (inR m.regs i.dst && (inR m.regs i.a && (inR m.regs i.b && true))) := rfl
  cases hr : [i.dst, i.a, i.b].all (inR m.regs) with
  | false =>
    have hb3 : ¬ (inR m.regs i.dst = true ∧ inR m.regs i.a = true ∧ inR m.regs i.b = true) := by
      rintro ⟨x, y, z⟩; rw [hall, x, y, z] at hr; cases hr
    refine s_q (by (first | exact y_notT rfl | exact y_notF rfl | exact y_notp rfl | exact y_notb rfl)) rfl ?_
    refine s_q (y_assign rfl) rfl ?_
    refine s_done ?_
    refine s_condT2 rfl (by with_reducible rfl) ?_
    refine s_seq ?_
    refine s_region ?_
    refine s_q (y_assign rfl) rfl ?_
    refine s_done ?_
    exact s_return ⟨by rw [insE_eq, if_neg hb1, if_neg hb2, if_pos hb3], rfl⟩ (res_tmp Try.results36 rfl)
  | true =>
  have hb3 : ¬ ¬ (inR m.regs i.dst = true ∧ inR m.regs i.a = true ∧ inR m.regs i.b = true) := by
    rw [hall] at hr; simp at hr; simp [hr]
  refine s_q (by (first | exact y_notT rfl | exact y_notF rfl | exact y_notp rfl | exact y_notb rfl)) rfl ?_
  refine s_q (y_assign rfl) rfl ?_
  refine s_done ?_
  refine s_condF2 rfl (by with_reducible rfl) ?_
  refine s_seq ?_
  refine s_region ?_
  refine s_q (y_move rfl) rfl ?_
  refine s_call (pre := []) (rem := _) rfl rfl tk (fun w N ho hl => with_spec w N (hasP i.op) 16 hp (by omega) ho) rfl ?_
  rintro e L' ⟨rfl, rfl⟩
  try simp only [List.nil_append, List.cons_append, List.append_nil]
  by_cases e16 : hasP i.op &&& 16 ≠ 0
  · rw [decide_eq_true e16]
    refine s_q (y_move rfl) rfl ?_
    refine s_guard2 rfl rfl (by with_reducible rfl) ?_
    refine s_q (by (first | exact y_fieldAddrB rfl rfl rfl rfl rfl rfl | exact y_fieldAddr rfl rfl rfl rfl rfl rfl)) rfl ?_
    refine s_guard2 rfl rfl (by with_reducible rfl) ?_
    refine s_q (by (first | exact y_ld rfl rfl rfl (by rfl) | exact y_ldN rfl rfl rfl (by rfl) | exact y_ldK rfl rfl rfl rfl (by assumption) (by omega) | exact y_ldI rfl rfl rfl rfl (by assumption) (by omega) (by omega))) rfl ?_
    refine s_guard2 rfl rfl (by with_reducible rfl) ?_
    refine s_q (by (first | exact y_as (y_convertI (m := i.imm) rfl rfl rfl) (congrArg (Value.int .u64) (wrap_u64 i.imm)) | exact y_as (y_convertI (m := sl) rfl rfl rfl) (congrArg (Value.int .u64) (show IntKind.u64.wrap sl = sl by rw [wrap_u64]; omega)))) rfl ?_
    refine s_guard2 rfl rfl (by with_reducible rfl) ?_
    refine s_q (by (first | exact y_fieldAddrB rfl rfl rfl rfl rfl rfl | exact y_fieldAddr rfl rfl rfl rfl rfl rfl)) rfl ?_
    refine s_guard2 rfl rfl (by with_reducible rfl) ?_
    refine s_q (by (first | exact y_ld rfl rfl rfl (by rfl) | exact y_ldN rfl rfl rfl (by rfl) | exact y_ldK rfl rfl rfl rfl (by assumption) (by omega) | exact y_ldI rfl rfl rfl rfl (by assumption) (by omega) (by omega))) rfl ?_
    refine s_guard2 rfl rfl (by with_reducible rfl) ?_
    refine s_q (by (first | exact y_as (y_convertI (m := i.imm) rfl rfl rfl) (congrArg (Value.int .u64) (wrap_u64 i.imm)) | exact y_as (y_convertI (m := sl) rfl rfl rfl) (congrArg (Value.int .u64) (show IntKind.u64.wrap sl = sl by rw [wrap_u64]; omega)))) rfl ?_
    refine s_guard2 rfl rfl (by with_reducible rfl) ?_
    refine s_q (y_geq rfl rfl) rfl ?_
    refine s_q (by (first | exact y_pickT rfl rfl | exact y_pickF rfl rfl)) rfl ?_
    refine s_q (y_assign rfl) rfl ?_
    refine s_done ?_
    refine s_cond rfl (fun h4 => ?_) (fun h4 => ?_)
    · refine s_seq ?_
      refine s_region ?_
      refine s_q (y_assign rfl) rfl ?_
      refine s_done ?_
      exact s_return ⟨by rw [insE_eq, if_neg hb1, if_neg hb2, if_neg hb3, if_pos ⟨e16, by omega⟩], rfl⟩ (res_tmp Try.results36 rfl)
    · refine s_skip ?_
      refine s_endb ?_
      refine s_seq ?_
      refine s_region ?_
      refine s_q (y_assign rfl) rfl ?_
      refine s_done ?_
      exact s_return ⟨by rw [insE_eq, if_neg hb1, if_neg hb2, if_neg hb3, if_neg (fun x => x.2 (by omega))], rfl⟩ (res_tmp Try.results36 rfl)
  · rw [decide_eq_false e16]
    refine s_q (y_move rfl) rfl ?_
    refine s_unguard2 (b := false) rfl rfl (by with_reducible rfl) rfl rfl ?_
    refine s_unguard2 (b := false) rfl rfl (by with_reducible rfl) rfl rfl ?_
    refine s_unguard2 (b := false) rfl rfl (by with_reducible rfl) rfl rfl ?_
    refine s_unguard2 (b := false) rfl rfl (by with_reducible rfl) rfl rfl ?_
    refine s_unguard2 (b := false) rfl rfl (by with_reducible rfl) rfl rfl ?_
    refine s_unguard2 (b := false) rfl rfl (by with_reducible rfl) rfl rfl ?_
    refine s_unguard2 (b := false) rfl rfl (by with_reducible rfl) rfl rfl ?_
    refine s_q (by (first | exact y_pickT rfl rfl | exact y_pickF rfl rfl)) rfl ?_
    refine s_q (y_assign rfl) rfl ?_
    refine s_done ?_
    refine s_condF2 rfl (by with_reducible rfl) ?_
    refine s_skip ?_
    refine s_endb ?_
    refine s_seq ?_
    refine s_region ?_
    refine s_q (y_assign rfl) rfl ?_
    refine s_done ?_
    exact s_return ⟨by rw [insE_eq, if_neg hb1, if_neg hb2, if_neg hb3, if_neg (fun x => e16 x.1)], rfl⟩ (res_tmp Try.results36 rfl)
end Go.Proofs.Ytgpebcfeeagoaaa
