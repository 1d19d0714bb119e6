/- Layer 6 (mir), the document's: the first error of an instruction. -/
import Derived.Test.YtgpebcfeeagoaaaMirU
import Derived.Test.YtgpebcfeeagoaaaMirO
import Derived.Test.YtgpebcfeeagoaaaEEc
import Derived.Test.YtgpebcfeeagoaaaEEb
set_option linter.unusedVariables false
set_option linter.unusedSimpArgs false
namespace Go.Proofs.Ytgpebcfeeagoaaa
open Go Go.E
set_option maxRecDepth 4000
set_option maxHeartbeats 1000000
def immP (i : InsD) : Prop := i.imm = 0 ∨ hasP i.op &&& 16 ≠ 0 ∨ (hasP i.op &&& 8 ≠ 0 ∧ -1099511627776 ≤ i.imm ∧ i.imm ≤ 1099511627776)
def callP (n : Nat) (i : InsD) : Prop := (i.callee = 0 ∧ i.many = 0) ∨ (hasP i.op &&& 32 ≠ 0 ∧ (0 ≤ i.callee ∧ i.callee ≤ 99) ∧ 0 ≤ i.many ∧ i.many ≤ n)
instance (i : InsD) : Decidable (immP i) := by unfold immP; infer_instance
instance (n : Nat) (i : InsD) : Decidable (callP n i) := by unfold callP; infer_instance
def BadP (n : Nat) (i : InsD) : Prop := hasP i.op = 0 ∨ ¬ immP i ∨ ¬ callP n i ∨ 0 < i.xs.length ∨ (¬ hasP i.op &&& 1 ≠ 0 ∧ i.dst ≠ 0) ∨ (¬ hasP i.op &&& 2 ≠ 0 ∧ i.a ≠ 0) ∨ (¬ hasP i.op &&& 4 ≠ 0 ∧ i.b ≠ 0)
instance (n : Nat) (i : InsD) : Decidable (BadP n i) := by unfold BadP; infer_instance
theorem badP_iff (n : Nat) (i : InsD) : BadP n i ↔ ((hasP i.op = 0 ∨ 0 < i.xs.length ∨ (hasP i.op &&& 1 = 0 ∧ i.dst ≠ 0) ∨ (hasP i.op &&& 2 = 0 ∧ i.a ≠ 0) ∨ (hasP i.op &&& 4 = 0 ∧ i.b ≠ 0) ∨ (hasP i.op &&& 24 = 0 ∧ i.imm ≠ 0) ∨ (hasP i.op &&& 32 = 0 ∧ i.callee ≠ 0) ∨ (hasP i.op &&& 32 = 0 ∧ i.many ≠ 0)) ∨ ((hasP i.op &&& 8 ≠ 0 ∧ (i.imm < -1099511627776 ∨ 1099511627776 < i.imm)) ∨ ¬ (0 ≤ i.callee ∧ i.callee ≤ 99) ∨ ¬ (0 ≤ i.many ∧ i.many ≤ n))) := by
  unfold BadP immP callP
  generalize i.callee = c, i.many = y, i.imm = z, i.dst = d, i.a = a, i.b = b, i.xs.length = x
  refine hasS_all (P := fun p _ _ => (p = 0 ∨ ¬ (z = 0 ∨ p &&& 16 ≠ 0 ∨ (p &&& 8 ≠ 0 ∧ -1099511627776 ≤ z ∧ z ≤ 1099511627776)) ∨ ¬ ((c = 0 ∧ y = 0) ∨ (p &&& 32 ≠ 0 ∧ (0 ≤ c ∧ c ≤ 99) ∧ 0 ≤ y ∧ y ≤ n)) ∨ 0 < x ∨ (¬ p &&& 1 ≠ 0 ∧ d ≠ 0) ∨ (¬ p &&& 2 ≠ 0 ∧ a ≠ 0) ∨ (¬ p &&& 4 ≠ 0 ∧ b ≠ 0)) ↔ ((p = 0 ∨ 0 < x ∨ (p &&& 1 = 0 ∧ d ≠ 0) ∨ (p &&& 2 = 0 ∧ a ≠ 0) ∨ (p &&& 4 = 0 ∧ b ≠ 0) ∨ (p &&& 24 = 0 ∧ z ≠ 0) ∨ (p &&& 32 = 0 ∧ c ≠ 0) ∨ (p &&& 32 = 0 ∧ y ≠ 0)) ∨ ((p &&& 8 ≠ 0 ∧ (z < -1099511627776 ∨ 1099511627776 < z)) ∨ ¬ (0 ≤ c ∧ c ≤ 99) ∨ ¬ (0 ≤ y ∧ y ≤ n)))) i.op ?_ ?_ ?_ ?_ ?_ ?_ ?_ ?_ ?_ <;> intros <;> simp <;> omega
theorem insE_T {r : Int} {n : Nat} {f : Int} {i : InsD} (h : BadP n i) : insE r n f i = 2 := by
  unfold insE
  dsimp only
  rcases (badP_iff n i).1 h with h | h
  · rw [if_pos h]
  · split
    · rfl
    · rfl
theorem insE_F {r : Int} {n : Nat} {f : Int} {i : InsD} (h : ¬ BadP n i) : insE r n f i = if ¬ (inR r i.dst = true ∧ inR r i.a = true ∧ inR r i.b = true) then 10 else if hasP i.op &&& 16 ≠ 0 ∧ ¬ (0 ≤ i.imm ∧ i.imm < f) then 11 else 0 := by
  unfold insE
  dsimp only
  rw [if_neg (fun x => h ((badP_iff n i).2 (.inl x))), if_neg (fun x => h ((badP_iff n i).2 (.inr x)))]
theorem inR_in (r x : Int) : decide (0 ≤ x ∧ x ≤ r - 1) = inR r x := by
  unfold inR; exact decide_eq_decide.2 ⟨fun h => by omega, fun h => by omega⟩
theorem hS (o : Int) (c : Int) : (hasS o).size < 1000000000 := by have := hasS_size o; omega
theorem refIns_spec (w : World) (N : Nat → Prop) (m : MV) (A B : Option Addr) (c d : Nat) (f : Int) (i : InsD) (ho : Owns w [] N) (hr : 1 ≤ m.regs) (hr2 : m.regs ≤ 64) (hf : 0 ≤ f) (hf2 : f ≤ 400) (hla : m.args.length < 100000000000000) (hxl : i.xs.length < 100000000000000) :
    Ret Try.prog 43 [.agg (mval m A c B d).toArray, .int .i64 f, .agg (encIns i).toArray] w N fun v L => v = .int .i64 (insE m.regs m.args.length f i) ∧ L = [] := by
  refine ret_of_J cx Try.func43 rfl (Nat.le_of_ble_eq_true rfl) ho ?_
  refine s_seq ?_
  refine s_region ?_
  first | (refine s_box1 rfl rfl rfl (fun b1 => ?_)) | (refine s_boxA rfl rfl (fun b1 => ?_))
  change J _ _ _ (cb b1 24 (mval m A c B d) :: _) _
  first | (refine s_box1 rfl rfl rfl (fun b2 => ?_)) | (refine s_boxA rfl rfl (fun b2 => ?_))
  change J _ _ _ (cb b2 30 (encIns i) :: _) _
  refine s_q (y_assign rfl) rfl ?_
  refine s_done ?_
  refine s_seq ?_
  refine s_region ?_
  refine s_q (by (first | exact y_fieldAddrB rfl rfl rfl rfl rfl rfl | exact y_fieldAddr rfl rfl rfl rfl rfl rfl)) rfl ?_
  refine s_q (by (first | exact y_ld rfl rfl rfl (by rfl) | exact y_ldN rfl rfl rfl (by rfl) | exact y_ldK rfl rfl rfl rfl (by assumption) (by omega) | exact y_ldI rfl rfl rfl rfl (by assumption) (by omega) (by omega))) rfl ?_
  refine s_call (pre := []) (rem := _) rfl rfl tk (fun w N ho hl => refHas_spec w N i.op ho) rfl ?_
  rintro e L' ⟨rfl, rfl⟩
  try simp only [List.nil_append, List.cons_append, List.append_nil]
  refine s_q (y_assign rfl) rfl ?_
  refine s_done ?_
  refine s_seq ?_
  refine s_joinV (σ := Bool) (fun s => [(8, .bool s)]) [] (fun s => []) (fun s => (s = decide (immP i))) [(1, _), (3, _), (5, _), (7, _)] ⟨rfl, rfl, rfl, rfl, trivial⟩ tk (fun k' hr => ?_) ?_
  · by_cases e1 : i.imm = 0
    · refine s_region ?_
      refine s_q (by (first | exact y_fieldAddrB rfl rfl rfl rfl rfl rfl | exact y_fieldAddr rfl rfl rfl rfl rfl rfl)) rfl ?_
      refine s_q (by (first | exact y_ld rfl rfl rfl (by rfl) | exact y_ldN rfl rfl rfl (by rfl) | exact y_ldK rfl rfl rfl rfl (by assumption) (by omega) | exact y_ldI rfl rfl rfl rfl (by assumption) (by omega) (by omega))) rfl ?_
      refine s_q (by (first | exact y_as (y_eql rfl rfl) (congrArg Value.bool (decide_eq_true e1)) | exact y_eql rfl rfl | exact y_eqlB rfl rfl rfl)) rfl ?_
      refine s_q (y_move rfl) rfl ?_
      refine s_unguard2 (b := true) rfl rfl (by with_reducible rfl) rfl rfl ?_
      refine s_unguard2 (b := true) rfl rfl (by with_reducible rfl) rfl rfl ?_
      refine s_q (by (first | exact y_pickT rfl rfl | exact y_pickF rfl rfl)) rfl ?_
      refine s_q (y_move rfl) rfl ?_
      refine s_unguard2 (b := true) rfl rfl (by with_reducible rfl) rfl rfl ?_
      refine s_unguard2 (b := true) rfl rfl (by with_reducible rfl) rfl rfl ?_
      refine s_unguard2 (b := true) rfl rfl (by with_reducible rfl) rfl rfl ?_
      refine s_unguardU rfl rfl rfl ?_
      refine s_unguardU rfl rfl rfl ?_
      refine s_unguardU rfl rfl rfl ?_
      refine s_unguard2 (b := true) rfl rfl (by with_reducible rfl) rfl rfl ?_
      refine s_q (by (first | exact y_pickT rfl rfl | exact y_pickF rfl rfl)) rfl ?_
      refine s_q (y_assign rfl) rfl ?_
      refine s_done ?_
      have hr' := hr true (by rw [decide_eq_true (.inl e1)])
      try dsimp only [List.cons_append, List.nil_append, List.append_nil] at hr'
      exact J.to hr' ⟨rfl, rfl, rfl, rfl, rfl, trivial⟩ tk
    · refine s_region ?_
      refine s_q (by (first | exact y_fieldAddrB rfl rfl rfl rfl rfl rfl | exact y_fieldAddr rfl rfl rfl rfl rfl rfl)) rfl ?_
      refine s_q (by (first | exact y_ld rfl rfl rfl (by rfl) | exact y_ldN rfl rfl rfl (by rfl) | exact y_ldK rfl rfl rfl rfl (by assumption) (by omega) | exact y_ldI rfl rfl rfl rfl (by assumption) (by omega) (by omega))) rfl ?_
      refine s_q (by (first | exact y_as (y_eql rfl rfl) (congrArg Value.bool (decide_eq_false e1)) | exact y_eql rfl rfl | exact y_eqlB rfl rfl rfl)) rfl ?_
      refine s_q (y_move rfl) rfl ?_
      refine s_guard2 rfl rfl (by with_reducible rfl) ?_
      refine s_q (y_move rfl) rfl ?_
      refine s_guard2 rfl rfl (by with_reducible rfl) ?_
      refine s_call (pre := []) (rem := _) rfl rfl tk (fun w N ho hl => in_spec w N (hasS i.op) 115 ho (hS _ 0)) rfl ?_
      rintro e L' ⟨rfl, rfl⟩
      try simp only [List.nil_append, List.cons_append, List.append_nil]
      rw [inS_s]
      by_cases e2 : hasP i.op &&& 16 ≠ 0
      · rw [decide_eq_true e2]
        refine s_q (by (first | exact y_pickT rfl rfl | exact y_pickF rfl rfl)) rfl ?_
        refine s_q (y_move rfl) rfl ?_
        refine s_unguard2 (b := true) rfl rfl (by with_reducible rfl) rfl rfl ?_
        refine s_unguard2 (b := true) rfl rfl (by with_reducible rfl) rfl rfl ?_
        refine s_unguard2 (b := true) rfl rfl (by with_reducible rfl) rfl rfl ?_
        refine s_unguardU rfl rfl rfl ?_
        refine s_unguardU rfl rfl rfl ?_
        refine s_unguardU rfl rfl rfl ?_
        refine s_unguard2 (b := true) rfl rfl (by with_reducible rfl) rfl rfl ?_
        refine s_q (by (first | exact y_pickT rfl rfl | exact y_pickF rfl rfl)) rfl ?_
        refine s_q (y_assign rfl) rfl ?_
        refine s_done ?_
        have hr' := hr true (by rw [decide_eq_true (.inr (.inl e2))])
        try dsimp only [List.cons_append, List.nil_append, List.append_nil] at hr'
        exact J.to hr' ⟨rfl, rfl, rfl, rfl, rfl, trivial⟩ tk
      · rw [decide_eq_false e2]
        refine s_q (by (first | exact y_pickT rfl rfl | exact y_pickF rfl rfl)) rfl ?_
        refine s_q (y_move rfl) rfl ?_
        refine s_guard2 rfl rfl (by with_reducible rfl) ?_
        refine s_q (y_move rfl) rfl ?_
        refine s_guard2 rfl rfl (by with_reducible rfl) ?_
        refine s_call (pre := []) (rem := _) rfl rfl tk (fun w N ho hl => in_spec w N (hasS i.op) 105 ho (hS _ 0)) rfl ?_
        rintro e L' ⟨rfl, rfl⟩
        try simp only [List.nil_append, List.cons_append, List.append_nil]
        rw [inS_i]
        by_cases e3 : hasP i.op &&& 8 ≠ 0
        · rw [decide_eq_true e3]
          refine s_guard2 rfl rfl (by with_reducible rfl) ?_
          refine s_q (y_move rfl) rfl ?_
          refine s_guard2 rfl rfl (by with_reducible rfl) ?_
          refine s_q (by (first | exact y_fieldAddrB rfl rfl rfl rfl rfl rfl | exact y_fieldAddr rfl rfl rfl rfl rfl rfl)) rfl ?_
          refine s_guard2 rfl rfl (by with_reducible rfl) ?_
          refine s_q (by (first | exact y_ld rfl rfl rfl (by rfl) | exact y_ldN rfl rfl rfl (by rfl) | exact y_ldK rfl rfl rfl rfl (by assumption) (by omega) | exact y_ldI rfl rfl rfl rfl (by assumption) (by omega) (by omega))) rfl ?_
          refine s_guard2 rfl rfl (by with_reducible rfl) ?_
          refine s_call (pre := []) (rem := _) rfl rfl tk (fun w N ho hl => within_spec w N i.imm (-1099511627776) 1099511627776 ho) rfl ?_
          rintro e L' ⟨rfl, rfl⟩
          try simp only [List.nil_append, List.cons_append, List.append_nil]
          refine s_guard2 rfl rfl (by with_reducible rfl) ?_
          refine s_q (by (first | exact y_pickT rfl rfl | exact y_pickF rfl rfl)) rfl ?_
          refine s_q (by (first | exact y_pickT rfl rfl | exact y_pickF rfl rfl)) rfl ?_
          refine s_q (y_assign rfl) rfl ?_
          refine s_done ?_
          have hr' := hr (decide (-1099511627776 ≤ i.imm ∧ i.imm ≤ 1099511627776)) (by (try dsimp only); exact decide_eq_decide.2 ⟨fun x => .inr (.inr ⟨e3, x⟩), fun x => x.elim (fun y => absurd y e1) (fun x => x.elim (fun y => absurd y e2) (fun y => y.2))⟩)
          try dsimp only [List.cons_append, List.nil_append, List.append_nil] at hr'
          exact J.to hr' ⟨rfl, rfl, rfl, rfl, rfl, trivial⟩ tk
        · rw [decide_eq_false e3]
          refine s_guard2 rfl rfl (by with_reducible rfl) ?_
          refine s_q (y_move rfl) rfl ?_
          refine s_unguard2 (b := false) rfl rfl (by with_reducible rfl) rfl rfl ?_
          refine s_unguard2 (b := false) rfl rfl (by with_reducible rfl) rfl rfl ?_
          refine s_unguard2 (b := false) rfl rfl (by with_reducible rfl) rfl rfl ?_
          refine s_guard2 rfl rfl (by with_reducible rfl) ?_
          refine s_q (by (first | exact y_pickT rfl rfl | exact y_pickF rfl rfl)) rfl ?_
          refine s_q (by (first | exact y_pickT rfl rfl | exact y_pickF rfl rfl)) rfl ?_
          refine s_q (y_assign rfl) rfl ?_
          refine s_done ?_
          have hr' := hr false (by rw [decide_eq_false (fun x => x.elim e1 (fun x => x.elim e2 (fun y => e3 y.1)))])
          try dsimp only [List.cons_append, List.nil_append, List.append_nil] at hr'
          exact J.to hr' ⟨rfl, rfl, rfl, rfl, rfl, trivial⟩ tk
  rintro bi hbi
  dsimp only [List.cons_append, List.nil_append] at hbi ⊢
  refine s_seq ?_
  refine s_joinV (σ := Bool) (fun s => [(9, .bool s)]) [] (fun s => []) (fun s => (s = decide (callP m.args.length i))) [(1, _), (3, _), (5, _), (7, _), (8, _)] ⟨rfl, rfl, rfl, rfl, rfl, trivial⟩ tk (fun k' hr => ?_) ?_
  · have fin : ∀ v : Bool, (v = decide (hasP i.op &&& 32 ≠ 0 ∧ (0 ≤ i.callee ∧ i.callee ≤ 99) ∧ 0 ≤ i.many ∧ i.many ≤ m.args.length)) → ¬ (i.callee = 0 ∧ i.many = 0) → v = decide (callP m.args.length i) := fun v hv hn => by
      rw [hv]; exact decide_eq_decide.2 ⟨fun x => .inr x, fun x => x.elim (fun y => absurd y hn) id⟩
    by_cases e0 : i.callee = 0 ∧ i.many = 0
    · refine s_region ?_
      refine s_q (by (first | exact y_fieldAddrB rfl rfl rfl rfl rfl rfl | exact y_fieldAddr rfl rfl rfl rfl rfl rfl)) rfl ?_
      refine s_q (by (first | exact y_ld rfl rfl rfl (by rfl) | exact y_ldN rfl rfl rfl (by rfl) | exact y_ldK rfl rfl rfl rfl (by assumption) (by omega) | exact y_ldI rfl rfl rfl rfl (by assumption) (by omega) (by omega))) rfl ?_
      refine s_q (by (first | exact y_as (y_eql rfl rfl) (congrArg Value.bool (decide_eq_true e0.1)) | exact y_as (y_eql rfl rfl) (congrArg Value.bool (decide_eq_true e0.2)) | exact y_eql rfl rfl | exact y_eqlB rfl rfl rfl)) rfl ?_
      refine s_q (y_move rfl) rfl ?_
      refine s_guard2 rfl rfl (by with_reducible rfl) ?_
      refine s_q (by (first | exact y_fieldAddrB rfl rfl rfl rfl rfl rfl | exact y_fieldAddr rfl rfl rfl rfl rfl rfl)) rfl ?_
      refine s_guard2 rfl rfl (by with_reducible rfl) ?_
      refine s_q (by (first | exact y_ld rfl rfl rfl (by rfl) | exact y_ldN rfl rfl rfl (by rfl) | exact y_ldK rfl rfl rfl rfl (by assumption) (by omega) | exact y_ldI rfl rfl rfl rfl (by assumption) (by omega) (by omega))) rfl ?_
      refine s_guard2 rfl rfl (by with_reducible rfl) ?_
      refine s_q (by (first | exact y_as (y_eql rfl rfl) (congrArg Value.bool (decide_eq_true e0.1)) | exact y_as (y_eql rfl rfl) (congrArg Value.bool (decide_eq_true e0.2)) | exact y_eql rfl rfl | exact y_eqlB rfl rfl rfl)) rfl ?_
      refine s_q (by (first | exact y_pickT rfl rfl | exact y_pickF rfl rfl)) rfl ?_
      refine s_q (y_move rfl) rfl ?_
      refine s_unguard2 (b := true) rfl rfl (by with_reducible rfl) rfl rfl ?_
      refine s_unguard2 (b := true) rfl rfl (by with_reducible rfl) rfl rfl ?_
      refine s_unguard2 (b := true) rfl rfl (by with_reducible rfl) rfl rfl ?_
      refine s_unguardU rfl rfl rfl ?_
      refine s_unguardU rfl rfl rfl ?_
      refine s_unguardU rfl rfl rfl ?_
      refine s_unguard2 (b := true) rfl rfl (by with_reducible rfl) rfl rfl ?_
      refine s_unguard2 (b := true) rfl rfl (by with_reducible rfl) rfl rfl ?_
      refine s_unguardU rfl rfl rfl ?_
      refine s_unguardU rfl rfl rfl ?_
      refine s_unguardU rfl rfl rfl ?_
      refine s_unguardU rfl rfl rfl ?_
      refine s_unguardU rfl rfl rfl ?_
      refine s_unguardU rfl rfl rfl ?_
      refine s_unguard2 (b := true) rfl rfl (by with_reducible rfl) rfl rfl ?_
      refine s_q (by (first | exact y_pickT rfl rfl | exact y_pickF rfl rfl)) rfl ?_
      refine s_q (y_assign rfl) rfl ?_
      refine s_done ?_
      have hr' := hr true (by rw [decide_eq_true (.inl e0)])
      try dsimp only [List.cons_append, List.nil_append, List.append_nil] at hr'
      exact J.to hr' ⟨rfl, rfl, rfl, rfl, rfl, rfl, trivial⟩ tk
    · by_cases e1 : i.callee = 0
      · have e2 : ¬ i.many = 0 := fun x => e0 ⟨e1, x⟩
        by_cases e3 : hasP i.op &&& 32 ≠ 0
        · have eC := (hasS_c i.op).2 e3
          refine s_region ?_
          refine s_q (by (first | exact y_fieldAddrB rfl rfl rfl rfl rfl rfl | exact y_fieldAddr rfl rfl rfl rfl rfl rfl)) rfl ?_
          refine s_q (by (first | exact y_ld rfl rfl rfl (by rfl) | exact y_ldN rfl rfl rfl (by rfl) | exact y_ldK rfl rfl rfl rfl (by assumption) (by omega) | exact y_ldI rfl rfl rfl rfl (by assumption) (by omega) (by omega))) rfl ?_
          refine s_q (by (first | exact y_as (y_eql rfl rfl) (congrArg Value.bool (decide_eq_true e1)) | exact y_as (y_eql rfl rfl) (congrArg Value.bool (decide_eq_false e2)) | exact y_as (y_eqlStr rfl rfl) (congrArg Value.bool (decide_eq_true eC)) | exact y_eql rfl rfl | exact y_eqlB rfl rfl rfl)) rfl ?_
          refine s_q (y_move rfl) rfl ?_
          refine s_guard2 rfl rfl (by with_reducible rfl) ?_
          refine s_q (by (first | exact y_fieldAddrB rfl rfl rfl rfl rfl rfl | exact y_fieldAddr rfl rfl rfl rfl rfl rfl)) rfl ?_
          refine s_guard2 rfl rfl (by with_reducible rfl) ?_
          refine s_q (by (first | exact y_ld rfl rfl rfl (by rfl) | exact y_ldN rfl rfl rfl (by rfl) | exact y_ldK rfl rfl rfl rfl (by assumption) (by omega) | exact y_ldI rfl rfl rfl rfl (by assumption) (by omega) (by omega))) rfl ?_
          refine s_guard2 rfl rfl (by with_reducible rfl) ?_
          refine s_q (by (first | exact y_as (y_eql rfl rfl) (congrArg Value.bool (decide_eq_true e1)) | exact y_as (y_eql rfl rfl) (congrArg Value.bool (decide_eq_false e2)) | exact y_as (y_eqlStr rfl rfl) (congrArg Value.bool (decide_eq_true eC)) | exact y_eql rfl rfl | exact y_eqlB rfl rfl rfl)) rfl ?_
          refine s_q (by (first | exact y_pickT rfl rfl | exact y_pickF rfl rfl)) rfl ?_
          refine s_q (y_move rfl) rfl ?_
          refine s_guard2 rfl rfl (by with_reducible rfl) ?_
          refine s_q (y_move rfl) rfl ?_
          refine s_guard2 rfl rfl (by with_reducible rfl) ?_
          refine s_q (by (first | exact y_as (y_eql rfl rfl) (congrArg Value.bool (decide_eq_true e1)) | exact y_as (y_eql rfl rfl) (congrArg Value.bool (decide_eq_false e2)) | exact y_as (y_eqlStr rfl rfl) (congrArg Value.bool (decide_eq_true eC)) | exact y_eql rfl rfl | exact y_eqlB rfl rfl rfl)) rfl ?_
          refine s_guard2 rfl rfl (by with_reducible rfl) ?_
          refine s_q (y_move rfl) rfl ?_
          refine s_guard2 rfl rfl (by with_reducible rfl) ?_
          refine s_q (by (first | exact y_fieldAddrB rfl rfl rfl rfl rfl rfl | exact y_fieldAddr rfl rfl rfl rfl rfl rfl)) rfl ?_
          refine s_guard2 rfl rfl (by with_reducible rfl) ?_
          refine s_q (by (first | exact y_ld rfl rfl rfl (by rfl) | exact y_ldN rfl rfl rfl (by rfl) | exact y_ldK rfl rfl rfl rfl (by assumption) (by omega) | exact y_ldI rfl rfl rfl rfl (by assumption) (by omega) (by omega))) rfl ?_
          refine s_guard2 rfl rfl (by with_reducible rfl) ?_
          refine s_call (pre := []) (rem := _) rfl rfl tk (fun w N ho hl => within_spec w N i.callee 0 99 ho) rfl ?_
          rintro e L' ⟨rfl, rfl⟩
          try simp only [List.nil_append, List.cons_append, List.append_nil]
          by_cases e4 : 0 ≤ i.callee ∧ i.callee ≤ 99
          · rw [decide_eq_true e4]
            refine s_guard2 rfl rfl (by with_reducible rfl) ?_
            refine s_q (by (first | exact y_pickT rfl rfl | exact y_pickF rfl rfl)) rfl ?_
            refine s_guard2 rfl rfl (by with_reducible rfl) ?_
            refine s_q (y_move rfl) rfl ?_
            refine s_guard2 rfl rfl (by with_reducible rfl) ?_
            refine s_q (by (first | exact y_fieldAddrB rfl rfl rfl rfl rfl rfl | exact y_fieldAddr rfl rfl rfl rfl rfl rfl)) rfl ?_
            refine s_guard2 rfl rfl (by with_reducible rfl) ?_
            refine s_q (by (first | exact y_ld rfl rfl rfl (by rfl) | exact y_ldN rfl rfl rfl (by rfl) | exact y_ldK rfl rfl rfl rfl (by assumption) (by omega) | exact y_ldI rfl rfl rfl rfl (by assumption) (by omega) (by omega))) rfl ?_
            refine s_guard2 rfl rfl (by with_reducible rfl) ?_
            refine s_q (by (first | exact y_fieldAddrB rfl rfl rfl rfl rfl rfl | exact y_fieldAddr rfl rfl rfl rfl rfl rfl)) rfl ?_
            refine s_guard2 rfl rfl (by with_reducible rfl) ?_
            refine s_q (by (first | exact y_ld rfl rfl rfl (by rfl) | exact y_ldN rfl rfl rfl (by rfl) | exact y_ldK rfl rfl rfl rfl (by assumption) (by omega) | exact y_ldI rfl rfl rfl rfl (by assumption) (by omega) (by omega))) rfl ?_
            refine s_guard2 rfl rfl (by with_reducible rfl) ?_
            refine s_q (y_lenS rfl rfl rfl) rfl ?_
            refine s_guard2 rfl rfl (by with_reducible rfl) ?_
            refine s_call (pre := []) (rem := _) rfl rfl tk (fun w N ho hl => within_spec w N i.many 0 m.args.length ho) rfl ?_
            rintro e L' ⟨rfl, rfl⟩
            try simp only [List.nil_append, List.cons_append, List.append_nil]
            refine s_guard2 rfl rfl (by with_reducible rfl) ?_
            refine s_q (by (first | exact y_pickT rfl rfl | exact y_pickF rfl rfl)) rfl ?_
            refine s_q (by (first | exact y_pickT rfl rfl | exact y_pickF rfl rfl)) rfl ?_
            refine s_q (y_assign rfl) rfl ?_
            refine s_done ?_
            have hr' := hr (decide (0 ≤ i.many ∧ i.many ≤ (m.args.length : Int))) (fin _ (decide_eq_decide.2 ⟨fun x => ⟨e3, e4, x⟩, fun x => x.2.2⟩) e0)
            try dsimp only [List.cons_append, List.nil_append, List.append_nil] at hr'
            exact J.to hr' ⟨rfl, rfl, rfl, rfl, rfl, rfl, trivial⟩ tk
          · rw [decide_eq_false e4]
            refine s_guard2 rfl rfl (by with_reducible rfl) ?_
            refine s_q (by (first | exact y_pickT rfl rfl | exact y_pickF rfl rfl)) rfl ?_
            refine s_guard2 rfl rfl (by with_reducible rfl) ?_
            refine s_q (y_move rfl) rfl ?_
            refine s_unguard2 (b := false) rfl rfl (by with_reducible rfl) rfl rfl ?_
            refine s_unguard2 (b := false) rfl rfl (by with_reducible rfl) rfl rfl ?_
            refine s_unguard2 (b := false) rfl rfl (by with_reducible rfl) rfl rfl ?_
            refine s_unguard2 (b := false) rfl rfl (by with_reducible rfl) rfl rfl ?_
            refine s_unguard2 (b := false) rfl rfl (by with_reducible rfl) rfl rfl ?_
            refine s_unguard2 (b := false) rfl rfl (by with_reducible rfl) rfl rfl ?_
            refine s_guard2 rfl rfl (by with_reducible rfl) ?_
            refine s_q (by (first | exact y_pickT rfl rfl | exact y_pickF rfl rfl)) rfl ?_
            refine s_q (by (first | exact y_pickT rfl rfl | exact y_pickF rfl rfl)) rfl ?_
            refine s_q (y_assign rfl) rfl ?_
            refine s_done ?_
            have hr' := hr false (fin _ (decide_eq_false (fun x => e4 x.2.1)).symm e0)
            try dsimp only [List.cons_append, List.nil_append, List.append_nil] at hr'
            exact J.to hr' ⟨rfl, rfl, rfl, rfl, rfl, rfl, trivial⟩ tk
        · have eC : ¬ (hasS i.op).data.toList = [99] := fun x => e3 ((hasS_c i.op).1 x)
          refine s_region ?_
          refine s_q (by (first | exact y_fieldAddrB rfl rfl rfl rfl rfl rfl | exact y_fieldAddr rfl rfl rfl rfl rfl rfl)) rfl ?_
          refine s_q (by (first | exact y_ld rfl rfl rfl (by rfl) | exact y_ldN rfl rfl rfl (by rfl) | exact y_ldK rfl rfl rfl rfl (by assumption) (by omega) | exact y_ldI rfl rfl rfl rfl (by assumption) (by omega) (by omega))) rfl ?_
          refine s_q (by (first | exact y_as (y_eql rfl rfl) (congrArg Value.bool (decide_eq_true e1)) | exact y_as (y_eql rfl rfl) (congrArg Value.bool (decide_eq_false e2)) | exact y_as (y_eqlStr rfl rfl) (congrArg Value.bool (decide_eq_false eC)) | exact y_eql rfl rfl | exact y_eqlB rfl rfl rfl)) rfl ?_
          refine s_q (y_move rfl) rfl ?_
          refine s_guard2 rfl rfl (by with_reducible rfl) ?_
          refine s_q (by (first | exact y_fieldAddrB rfl rfl rfl rfl rfl rfl | exact y_fieldAddr rfl rfl rfl rfl rfl rfl)) rfl ?_
          refine s_guard2 rfl rfl (by with_reducible rfl) ?_
          refine s_q (by (first | exact y_ld rfl rfl rfl (by rfl) | exact y_ldN rfl rfl rfl (by rfl) | exact y_ldK rfl rfl rfl rfl (by assumption) (by omega) | exact y_ldI rfl rfl rfl rfl (by assumption) (by omega) (by omega))) rfl ?_
          refine s_guard2 rfl rfl (by with_reducible rfl) ?_
          refine s_q (by (first | exact y_as (y_eql rfl rfl) (congrArg Value.bool (decide_eq_true e1)) | exact y_as (y_eql rfl rfl) (congrArg Value.bool (decide_eq_false e2)) | exact y_as (y_eqlStr rfl rfl) (congrArg Value.bool (decide_eq_false eC)) | exact y_eql rfl rfl | exact y_eqlB rfl rfl rfl)) rfl ?_
          refine s_q (by (first | exact y_pickT rfl rfl | exact y_pickF rfl rfl)) rfl ?_
          refine s_q (y_move rfl) rfl ?_
          refine s_guard2 rfl rfl (by with_reducible rfl) ?_
          refine s_q (y_move rfl) rfl ?_
          refine s_guard2 rfl rfl (by with_reducible rfl) ?_
          refine s_q (by (first | exact y_as (y_eql rfl rfl) (congrArg Value.bool (decide_eq_true e1)) | exact y_as (y_eql rfl rfl) (congrArg Value.bool (decide_eq_false e2)) | exact y_as (y_eqlStr rfl rfl) (congrArg Value.bool (decide_eq_false eC)) | exact y_eql rfl rfl | exact y_eqlB rfl rfl rfl)) rfl ?_
          refine s_guard2 rfl rfl (by with_reducible rfl) ?_
          refine s_q (y_move rfl) rfl ?_
          refine s_unguard2 (b := false) rfl rfl (by with_reducible rfl) rfl rfl ?_
          refine s_unguard2 (b := false) rfl rfl (by with_reducible rfl) rfl rfl ?_
          refine s_unguard2 (b := false) rfl rfl (by with_reducible rfl) rfl rfl ?_
          refine s_guard2 rfl rfl (by with_reducible rfl) ?_
          refine s_q (by (first | exact y_pickT rfl rfl | exact y_pickF rfl rfl)) rfl ?_
          refine s_guard2 rfl rfl (by with_reducible rfl) ?_
          refine s_q (y_move rfl) rfl ?_
          refine s_unguard2 (b := false) rfl rfl (by with_reducible rfl) rfl rfl ?_
          refine s_unguard2 (b := false) rfl rfl (by with_reducible rfl) rfl rfl ?_
          refine s_unguard2 (b := false) rfl rfl (by with_reducible rfl) rfl rfl ?_
          refine s_unguard2 (b := false) rfl rfl (by with_reducible rfl) rfl rfl ?_
          refine s_unguard2 (b := false) rfl rfl (by with_reducible rfl) rfl rfl ?_
          refine s_unguard2 (b := false) rfl rfl (by with_reducible rfl) rfl rfl ?_
          refine s_guard2 rfl rfl (by with_reducible rfl) ?_
          refine s_q (by (first | exact y_pickT rfl rfl | exact y_pickF rfl rfl)) rfl ?_
          refine s_q (by (first | exact y_pickT rfl rfl | exact y_pickF rfl rfl)) rfl ?_
          refine s_q (y_assign rfl) rfl ?_
          refine s_done ?_
          have hr' := hr false (fin _ (decide_eq_false (fun x => e3 x.1)).symm e0)
          try dsimp only [List.cons_append, List.nil_append, List.append_nil] at hr'
          exact J.to hr' ⟨rfl, rfl, rfl, rfl, rfl, rfl, trivial⟩ tk
      · skip
        by_cases e3 : hasP i.op &&& 32 ≠ 0
        · have eC := (hasS_c i.op).2 e3
          refine s_region ?_
          refine s_q (by (first | exact y_fieldAddrB rfl rfl rfl rfl rfl rfl | exact y_fieldAddr rfl rfl rfl rfl rfl rfl)) rfl ?_
          refine s_q (by (first | exact y_ld rfl rfl rfl (by rfl) | exact y_ldN rfl rfl rfl (by rfl) | exact y_ldK rfl rfl rfl rfl (by assumption) (by omega) | exact y_ldI rfl rfl rfl rfl (by assumption) (by omega) (by omega))) rfl ?_
          refine s_q (by (first | exact y_as (y_eql rfl rfl) (congrArg Value.bool (decide_eq_false e1)) | exact y_as (y_eqlStr rfl rfl) (congrArg Value.bool (decide_eq_true eC)) | exact y_eql rfl rfl | exact y_eqlB rfl rfl rfl)) rfl ?_
          refine s_q (y_move rfl) rfl ?_
          refine s_unguard2 (b := false) rfl rfl (by with_reducible rfl) rfl rfl ?_
          refine s_unguard2 (b := false) rfl rfl (by with_reducible rfl) rfl rfl ?_
          refine s_unguard2 (b := false) rfl rfl (by with_reducible rfl) rfl rfl ?_
          refine s_q (by (first | exact y_pickT rfl rfl | exact y_pickF rfl rfl)) rfl ?_
          refine s_q (y_move rfl) rfl ?_
          refine s_guard2 rfl rfl (by with_reducible rfl) ?_
          refine s_q (y_move rfl) rfl ?_
          refine s_guard2 rfl rfl (by with_reducible rfl) ?_
          refine s_q (by (first | exact y_as (y_eql rfl rfl) (congrArg Value.bool (decide_eq_false e1)) | exact y_as (y_eqlStr rfl rfl) (congrArg Value.bool (decide_eq_true eC)) | exact y_eql rfl rfl | exact y_eqlB rfl rfl rfl)) rfl ?_
          refine s_guard2 rfl rfl (by with_reducible rfl) ?_
          refine s_q (y_move rfl) rfl ?_
          refine s_guard2 rfl rfl (by with_reducible rfl) ?_
          refine s_q (by (first | exact y_fieldAddrB rfl rfl rfl rfl rfl rfl | exact y_fieldAddr rfl rfl rfl rfl rfl rfl)) rfl ?_
          refine s_guard2 rfl rfl (by with_reducible rfl) ?_
          refine s_q (by (first | exact y_ld rfl rfl rfl (by rfl) | exact y_ldN rfl rfl rfl (by rfl) | exact y_ldK rfl rfl rfl rfl (by assumption) (by omega) | exact y_ldI rfl rfl rfl rfl (by assumption) (by omega) (by omega))) rfl ?_
          refine s_guard2 rfl rfl (by with_reducible rfl) ?_
          refine s_call (pre := []) (rem := _) rfl rfl tk (fun w N ho hl => within_spec w N i.callee 0 99 ho) rfl ?_
          rintro e L' ⟨rfl, rfl⟩
          try simp only [List.nil_append, List.cons_append, List.append_nil]
          by_cases e4 : 0 ≤ i.callee ∧ i.callee ≤ 99
          · rw [decide_eq_true e4]
            refine s_guard2 rfl rfl (by with_reducible rfl) ?_
            refine s_q (by (first | exact y_pickT rfl rfl | exact y_pickF rfl rfl)) rfl ?_
            refine s_guard2 rfl rfl (by with_reducible rfl) ?_
            refine s_q (y_move rfl) rfl ?_
            refine s_guard2 rfl rfl (by with_reducible rfl) ?_
            refine s_q (by (first | exact y_fieldAddrB rfl rfl rfl rfl rfl rfl | exact y_fieldAddr rfl rfl rfl rfl rfl rfl)) rfl ?_
            refine s_guard2 rfl rfl (by with_reducible rfl) ?_
            refine s_q (by (first | exact y_ld rfl rfl rfl (by rfl) | exact y_ldN rfl rfl rfl (by rfl) | exact y_ldK rfl rfl rfl rfl (by assumption) (by omega) | exact y_ldI rfl rfl rfl rfl (by assumption) (by omega) (by omega))) rfl ?_
            refine s_guard2 rfl rfl (by with_reducible rfl) ?_
            refine s_q (by (first | exact y_fieldAddrB rfl rfl rfl rfl rfl rfl | exact y_fieldAddr rfl rfl rfl rfl rfl rfl)) rfl ?_
            refine s_guard2 rfl rfl (by with_reducible rfl) ?_
            refine s_q (by (first | exact y_ld rfl rfl rfl (by rfl) | exact y_ldN rfl rfl rfl (by rfl) | exact y_ldK rfl rfl rfl rfl (by assumption) (by omega) | exact y_ldI rfl rfl rfl rfl (by assumption) (by omega) (by omega))) rfl ?_
            refine s_guard2 rfl rfl (by with_reducible rfl) ?_
            refine s_q (y_lenS rfl rfl rfl) rfl ?_
            refine s_guard2 rfl rfl (by with_reducible rfl) ?_
            refine s_call (pre := []) (rem := _) rfl rfl tk (fun w N ho hl => within_spec w N i.many 0 m.args.length ho) rfl ?_
            rintro e L' ⟨rfl, rfl⟩
            try simp only [List.nil_append, List.cons_append, List.append_nil]
            refine s_guard2 rfl rfl (by with_reducible rfl) ?_
            refine s_q (by (first | exact y_pickT rfl rfl | exact y_pickF rfl rfl)) rfl ?_
            refine s_q (by (first | exact y_pickT rfl rfl | exact y_pickF rfl rfl)) rfl ?_
            refine s_q (y_assign rfl) rfl ?_
            refine s_done ?_
            have hr' := hr (decide (0 ≤ i.many ∧ i.many ≤ (m.args.length : Int))) (fin _ (decide_eq_decide.2 ⟨fun x => ⟨e3, e4, x⟩, fun x => x.2.2⟩) e0)
            try dsimp only [List.cons_append, List.nil_append, List.append_nil] at hr'
            exact J.to hr' ⟨rfl, rfl, rfl, rfl, rfl, rfl, trivial⟩ tk
          · rw [decide_eq_false e4]
            refine s_guard2 rfl rfl (by with_reducible rfl) ?_
            refine s_q (by (first | exact y_pickT rfl rfl | exact y_pickF rfl rfl)) rfl ?_
            refine s_guard2 rfl rfl (by with_reducible rfl) ?_
            refine s_q (y_move rfl) rfl ?_
            refine s_unguard2 (b := false) rfl rfl (by with_reducible rfl) rfl rfl ?_
            refine s_unguard2 (b := false) rfl rfl (by with_reducible rfl) rfl rfl ?_
            refine s_unguard2 (b := false) rfl rfl (by with_reducible rfl) rfl rfl ?_
            refine s_unguard2 (b := false) rfl rfl (by with_reducible rfl) rfl rfl ?_
            refine s_unguard2 (b := false) rfl rfl (by with_reducible rfl) rfl rfl ?_
            refine s_unguard2 (b := false) rfl rfl (by with_reducible rfl) rfl rfl ?_
            refine s_guard2 rfl rfl (by with_reducible rfl) ?_
            refine s_q (by (first | exact y_pickT rfl rfl | exact y_pickF rfl rfl)) rfl ?_
            refine s_q (by (first | exact y_pickT rfl rfl | exact y_pickF rfl rfl)) rfl ?_
            refine s_q (y_assign rfl) rfl ?_
            refine s_done ?_
            have hr' := hr false (fin _ (decide_eq_false (fun x => e4 x.2.1)).symm e0)
            try dsimp only [List.cons_append, List.nil_append, List.append_nil] at hr'
            exact J.to hr' ⟨rfl, rfl, rfl, rfl, rfl, rfl, trivial⟩ tk
        · have eC : ¬ (hasS i.op).data.toList = [99] := fun x => e3 ((hasS_c i.op).1 x)
          refine s_region ?_
          refine s_q (by (first | exact y_fieldAddrB rfl rfl rfl rfl rfl rfl | exact y_fieldAddr rfl rfl rfl rfl rfl rfl)) rfl ?_
          refine s_q (by (first | exact y_ld rfl rfl rfl (by rfl) | exact y_ldN rfl rfl rfl (by rfl) | exact y_ldK rfl rfl rfl rfl (by assumption) (by omega) | exact y_ldI rfl rfl rfl rfl (by assumption) (by omega) (by omega))) rfl ?_
          refine s_q (by (first | exact y_as (y_eql rfl rfl) (congrArg Value.bool (decide_eq_false e1)) | exact y_as (y_eqlStr rfl rfl) (congrArg Value.bool (decide_eq_false eC)) | exact y_eql rfl rfl | exact y_eqlB rfl rfl rfl)) rfl ?_
          refine s_q (y_move rfl) rfl ?_
          refine s_unguard2 (b := false) rfl rfl (by with_reducible rfl) rfl rfl ?_
          refine s_unguard2 (b := false) rfl rfl (by with_reducible rfl) rfl rfl ?_
          refine s_unguard2 (b := false) rfl rfl (by with_reducible rfl) rfl rfl ?_
          refine s_q (by (first | exact y_pickT rfl rfl | exact y_pickF rfl rfl)) rfl ?_
          refine s_q (y_move rfl) rfl ?_
          refine s_guard2 rfl rfl (by with_reducible rfl) ?_
          refine s_q (y_move rfl) rfl ?_
          refine s_guard2 rfl rfl (by with_reducible rfl) ?_
          refine s_q (by (first | exact y_as (y_eql rfl rfl) (congrArg Value.bool (decide_eq_false e1)) | exact y_as (y_eqlStr rfl rfl) (congrArg Value.bool (decide_eq_false eC)) | exact y_eql rfl rfl | exact y_eqlB rfl rfl rfl)) rfl ?_
          refine s_guard2 rfl rfl (by with_reducible rfl) ?_
          refine s_q (y_move rfl) rfl ?_
          refine s_unguard2 (b := false) rfl rfl (by with_reducible rfl) rfl rfl ?_
          refine s_unguard2 (b := false) rfl rfl (by with_reducible rfl) rfl rfl ?_
          refine s_unguard2 (b := false) rfl rfl (by with_reducible rfl) rfl rfl ?_
          refine s_guard2 rfl rfl (by with_reducible rfl) ?_
          refine s_q (by (first | exact y_pickT rfl rfl | exact y_pickF rfl rfl)) rfl ?_
          refine s_guard2 rfl rfl (by with_reducible rfl) ?_
          refine s_q (y_move rfl) rfl ?_
          refine s_unguard2 (b := false) rfl rfl (by with_reducible rfl) rfl rfl ?_
          refine s_unguard2 (b := false) rfl rfl (by with_reducible rfl) rfl rfl ?_
          refine s_unguard2 (b := false) rfl rfl (by with_reducible rfl) rfl rfl ?_
          refine s_unguard2 (b := false) rfl rfl (by with_reducible rfl) rfl rfl ?_
          refine s_unguard2 (b := false) rfl rfl (by with_reducible rfl) rfl rfl ?_
          refine s_unguard2 (b := false) rfl rfl (by with_reducible rfl) rfl rfl ?_
          refine s_guard2 rfl rfl (by with_reducible rfl) ?_
          refine s_q (by (first | exact y_pickT rfl rfl | exact y_pickF rfl rfl)) rfl ?_
          refine s_q (by (first | exact y_pickT rfl rfl | exact y_pickF rfl rfl)) rfl ?_
          refine s_q (y_assign rfl) rfl ?_
          refine s_done ?_
          have hr' := hr false (fin _ (decide_eq_false (fun x => e3 x.1)).symm e0)
          try dsimp only [List.cons_append, List.nil_append, List.append_nil] at hr'
          exact J.to hr' ⟨rfl, rfl, rfl, rfl, rfl, rfl, trivial⟩ tk
  rintro bc hbc
  dsimp only [List.cons_append, List.nil_append] at hbc ⊢
  refine s_seq ?_
  refine s_seq ?_
  refine s_joinV (σ := Bool) (fun s => [(99, .bool s)]) [] (fun s => []) (fun s => (s = decide (BadP m.args.length i))) [(1, _), (3, _), (5, _), (7, _)] ⟨rfl, rfl, rfl, rfl, trivial⟩ tk (fun k' hr => ?_) ?_
  · by_cases h0 : (hasS i.op).data.toList = []
    · refine s_region ?_
      refine s_q (y_move rfl) rfl ?_
      refine s_q (by (first | exact y_as (y_eqlStr rfl rfl) (congrArg Value.bool (decide_eq_true h0)) | exact y_eql rfl rfl | exact y_eqlB rfl rfl rfl)) rfl ?_
      refine s_q (y_move rfl) rfl ?_
      refine s_unguard2 (b := true) rfl rfl (by with_reducible rfl) rfl rfl ?_
      refine s_unguard2 (b := true) rfl rfl (by with_reducible rfl) rfl rfl ?_
      refine s_q (by (first | exact y_pickT rfl rfl | exact y_pickF rfl rfl)) rfl ?_
      refine s_q (y_move rfl) rfl ?_
      refine s_unguard2 (b := true) rfl rfl (by with_reducible rfl) rfl rfl ?_
      refine s_unguard2 (b := true) rfl rfl (by with_reducible rfl) rfl rfl ?_
      refine s_q (by (first | exact y_pickT rfl rfl | exact y_pickF rfl rfl)) rfl ?_
      refine s_q (y_move rfl) rfl ?_
      refine s_unguard2 (b := true) rfl rfl (by with_reducible rfl) rfl rfl ?_
      refine s_unguard2 (b := true) rfl rfl (by with_reducible rfl) rfl rfl ?_
      refine s_unguard2 (b := true) rfl rfl (by with_reducible rfl) rfl rfl ?_
      refine s_unguard2 (b := true) rfl rfl (by with_reducible rfl) rfl rfl ?_
      refine s_q (by (first | exact y_pickT rfl rfl | exact y_pickF rfl rfl)) rfl ?_
      refine s_q (y_move rfl) rfl ?_
      refine s_unguard2 (b := true) rfl rfl (by with_reducible rfl) rfl rfl ?_
      refine s_unguard2 (b := true) rfl rfl (by with_reducible rfl) rfl rfl ?_
      refine s_unguard2 (b := true) rfl rfl (by with_reducible rfl) rfl rfl ?_
      refine s_unguard2 (b := true) rfl rfl (by with_reducible rfl) rfl rfl ?_
      refine s_unguardU rfl rfl rfl ?_
      refine s_unguardU rfl rfl rfl ?_
      refine s_unguardU rfl rfl rfl ?_
      refine s_unguard2 (b := true) rfl rfl (by with_reducible rfl) rfl rfl ?_
      refine s_q (by (first | exact y_pickT rfl rfl | exact y_pickF rfl rfl)) rfl ?_
      refine s_q (y_move rfl) rfl ?_
      refine s_unguard2 (b := true) rfl rfl (by with_reducible rfl) rfl rfl ?_
      refine s_unguard2 (b := true) rfl rfl (by with_reducible rfl) rfl rfl ?_
      refine s_unguard2 (b := true) rfl rfl (by with_reducible rfl) rfl rfl ?_
      refine s_unguard2 (b := true) rfl rfl (by with_reducible rfl) rfl rfl ?_
      refine s_unguardU rfl rfl rfl ?_
      refine s_unguardU rfl rfl rfl ?_
      refine s_unguardU rfl rfl rfl ?_
      refine s_unguard2 (b := true) rfl rfl (by with_reducible rfl) rfl rfl ?_
      refine s_q (by (first | exact y_pickT rfl rfl | exact y_pickF rfl rfl)) rfl ?_
      refine s_q (y_move rfl) rfl ?_
      refine s_unguard2 (b := true) rfl rfl (by with_reducible rfl) rfl rfl ?_
      refine s_unguard2 (b := true) rfl rfl (by with_reducible rfl) rfl rfl ?_
      refine s_unguard2 (b := true) rfl rfl (by with_reducible rfl) rfl rfl ?_
      refine s_unguard2 (b := true) rfl rfl (by with_reducible rfl) rfl rfl ?_
      refine s_unguardU rfl rfl rfl ?_
      refine s_unguardU rfl rfl rfl ?_
      refine s_unguardU rfl rfl rfl ?_
      refine s_unguard2 (b := true) rfl rfl (by with_reducible rfl) rfl rfl ?_
      refine s_q (by (first | exact y_pickT rfl rfl | exact y_pickF rfl rfl)) rfl ?_
      refine s_done ?_
      have hr' := hr true (by rw [decide_eq_true (.inl ((hasS_nil _).1 h0))])
      try dsimp only [List.cons_append, List.nil_append, List.append_nil] at hr'
      exact J.to hr' ⟨rfl, rfl, rfl, rfl, rfl, trivial⟩ tk
    have g0 : ¬ hasP i.op = 0 := fun x => h0 ((hasS_nil _).2 x)
    by_cases h1 : immP i
    rotate_left
    · have : bi = false := by rw [hbi, decide_eq_false h1]
      subst this
      refine s_region ?_
      refine s_q (y_move rfl) rfl ?_
      refine s_q (by (first | exact y_as (y_eqlStr rfl rfl) (congrArg Value.bool (decide_eq_false h0)) | exact y_eql rfl rfl | exact y_eqlB rfl rfl rfl)) rfl ?_
      refine s_q (y_move rfl) rfl ?_
      refine s_guard2 rfl rfl (by with_reducible rfl) ?_
      refine s_q (y_move rfl) rfl ?_
      refine s_guard2 rfl rfl (by with_reducible rfl) ?_
      refine s_q (by (first | exact y_notT rfl | exact y_notF rfl | exact y_notp rfl | exact y_notb rfl)) rfl ?_
      refine s_q (by (first | exact y_pickT rfl rfl | exact y_pickF rfl rfl)) rfl ?_
      refine s_q (y_move rfl) rfl ?_
      refine s_unguard2 (b := true) rfl rfl (congrArg Value.bool (by decide)) rfl rfl ?_
      refine s_unguard2 (b := true) rfl rfl (congrArg Value.bool (by decide)) rfl rfl ?_
      refine s_q (by (first | exact y_pickT rfl rfl | exact y_pickF rfl rfl)) rfl ?_
      refine s_q (y_move rfl) rfl ?_
      refine s_unguard2 (b := true) rfl rfl (by with_reducible rfl) rfl rfl ?_
      refine s_unguard2 (b := true) rfl rfl (by with_reducible rfl) rfl rfl ?_
      refine s_unguard2 (b := true) rfl rfl (by with_reducible rfl) rfl rfl ?_
      refine s_unguard2 (b := true) rfl rfl (by with_reducible rfl) rfl rfl ?_
      refine s_q (by (first | exact y_pickT rfl rfl | exact y_pickF rfl rfl)) rfl ?_
      refine s_q (y_move rfl) rfl ?_
      refine s_unguard2 (b := true) rfl rfl (by with_reducible rfl) rfl rfl ?_
      refine s_unguard2 (b := true) rfl rfl (by with_reducible rfl) rfl rfl ?_
      refine s_unguard2 (b := true) rfl rfl (by with_reducible rfl) rfl rfl ?_
      refine s_unguard2 (b := true) rfl rfl (by with_reducible rfl) rfl rfl ?_
      refine s_unguardU rfl rfl rfl ?_
      refine s_unguardU rfl rfl rfl ?_
      refine s_unguardU rfl rfl rfl ?_
      refine s_unguard2 (b := true) rfl rfl (by with_reducible rfl) rfl rfl ?_
      refine s_q (by (first | exact y_pickT rfl rfl | exact y_pickF rfl rfl)) rfl ?_
      refine s_q (y_move rfl) rfl ?_
      refine s_unguard2 (b := true) rfl rfl (by with_reducible rfl) rfl rfl ?_
      refine s_unguard2 (b := true) rfl rfl (by with_reducible rfl) rfl rfl ?_
      refine s_unguard2 (b := true) rfl rfl (by with_reducible rfl) rfl rfl ?_
      refine s_unguard2 (b := true) rfl rfl (by with_reducible rfl) rfl rfl ?_
      refine s_unguardU rfl rfl rfl ?_
      refine s_unguardU rfl rfl rfl ?_
      refine s_unguardU rfl rfl rfl ?_
      refine s_unguard2 (b := true) rfl rfl (by with_reducible rfl) rfl rfl ?_
      refine s_q (by (first | exact y_pickT rfl rfl | exact y_pickF rfl rfl)) rfl ?_
      refine s_q (y_move rfl) rfl ?_
      refine s_unguard2 (b := true) rfl rfl (by with_reducible rfl) rfl rfl ?_
      refine s_unguard2 (b := true) rfl rfl (by with_reducible rfl) rfl rfl ?_
      refine s_unguard2 (b := true) rfl rfl (by with_reducible rfl) rfl rfl ?_
      refine s_unguard2 (b := true) rfl rfl (by with_reducible rfl) rfl rfl ?_
      refine s_unguardU rfl rfl rfl ?_
      refine s_unguardU rfl rfl rfl ?_
      refine s_unguardU rfl rfl rfl ?_
      refine s_unguard2 (b := true) rfl rfl (by with_reducible rfl) rfl rfl ?_
      refine s_q (by (first | exact y_pickT rfl rfl | exact y_pickF rfl rfl)) rfl ?_
      refine s_done ?_
      have hr' := hr true (by rw [decide_eq_true (.inr (.inl h1))])
      try dsimp only [List.cons_append, List.nil_append, List.append_nil] at hr'
      exact J.to hr' ⟨rfl, rfl, rfl, rfl, rfl, trivial⟩ tk
    obtain rfl : bi = true := by rw [hbi, decide_eq_true h1]
    by_cases h2 : callP m.args.length i
    rotate_left
    · have : bc = false := by rw [hbc, decide_eq_false h2]
      subst this
      refine s_region ?_
      refine s_q (y_move rfl) rfl ?_
      refine s_q (by (first | exact y_as (y_eqlStr rfl rfl) (congrArg Value.bool (decide_eq_false h0)) | exact y_eql rfl rfl | exact y_eqlB rfl rfl rfl)) rfl ?_
      refine s_q (y_move rfl) rfl ?_
      refine s_guard2 rfl rfl (by with_reducible rfl) ?_
      refine s_q (y_move rfl) rfl ?_
      refine s_guard2 rfl rfl (by with_reducible rfl) ?_
      refine s_q (by (first | exact y_notT rfl | exact y_notF rfl | exact y_notp rfl | exact y_notb rfl)) rfl ?_
      refine s_q (by (first | exact y_pickT rfl rfl | exact y_pickF rfl rfl)) rfl ?_
      refine s_q (y_move rfl) rfl ?_
      refine s_guard2 rfl rfl (congrArg Value.bool (by decide)) ?_
      refine s_q (y_move rfl) rfl ?_
      refine s_guard2 rfl rfl (congrArg Value.bool (by decide)) ?_
      refine s_q (by (first | exact y_notT rfl | exact y_notF rfl | exact y_notp rfl | exact y_notb rfl)) rfl ?_
      refine s_q (by (first | exact y_pickT rfl rfl | exact y_pickF rfl rfl)) rfl ?_
      refine s_q (y_move rfl) rfl ?_
      refine s_unguard2 (b := true) rfl rfl (congrArg Value.bool (by decide)) rfl rfl ?_
      refine s_unguard2 (b := true) rfl rfl (congrArg Value.bool (by decide)) rfl rfl ?_
      refine s_unguard2 (b := true) rfl rfl (congrArg Value.bool (by decide)) rfl rfl ?_
      refine s_unguard2 (b := true) rfl rfl (congrArg Value.bool (by decide)) rfl rfl ?_
      refine s_q (by (first | exact y_pickT rfl rfl | exact y_pickF rfl rfl)) rfl ?_
      refine s_q (y_move rfl) rfl ?_
      refine s_unguard2 (b := true) rfl rfl (by with_reducible rfl) rfl rfl ?_
      refine s_unguard2 (b := true) rfl rfl (by with_reducible rfl) rfl rfl ?_
      refine s_unguard2 (b := true) rfl rfl (by with_reducible rfl) rfl rfl ?_
      refine s_unguard2 (b := true) rfl rfl (by with_reducible rfl) rfl rfl ?_
      refine s_unguardU rfl rfl rfl ?_
      refine s_unguardU rfl rfl rfl ?_
      refine s_unguardU rfl rfl rfl ?_
      refine s_unguard2 (b := true) rfl rfl (by with_reducible rfl) rfl rfl ?_
      refine s_q (by (first | exact y_pickT rfl rfl | exact y_pickF rfl rfl)) rfl ?_
      refine s_q (y_move rfl) rfl ?_
      refine s_unguard2 (b := true) rfl rfl (by with_reducible rfl) rfl rfl ?_
      refine s_unguard2 (b := true) rfl rfl (by with_reducible rfl) rfl rfl ?_
      refine s_unguard2 (b := true) rfl rfl (by with_reducible rfl) rfl rfl ?_
      refine s_unguard2 (b := true) rfl rfl (by with_reducible rfl) rfl rfl ?_
      refine s_unguardU rfl rfl rfl ?_
      refine s_unguardU rfl rfl rfl ?_
      refine s_unguardU rfl rfl rfl ?_
      refine s_unguard2 (b := true) rfl rfl (by with_reducible rfl) rfl rfl ?_
      refine s_q (by (first | exact y_pickT rfl rfl | exact y_pickF rfl rfl)) rfl ?_
      refine s_q (y_move rfl) rfl ?_
      refine s_unguard2 (b := true) rfl rfl (by with_reducible rfl) rfl rfl ?_
      refine s_unguard2 (b := true) rfl rfl (by with_reducible rfl) rfl rfl ?_
      refine s_unguard2 (b := true) rfl rfl (by with_reducible rfl) rfl rfl ?_
      refine s_unguard2 (b := true) rfl rfl (by with_reducible rfl) rfl rfl ?_
      refine s_unguardU rfl rfl rfl ?_
      refine s_unguardU rfl rfl rfl ?_
      refine s_unguardU rfl rfl rfl ?_
      refine s_unguard2 (b := true) rfl rfl (by with_reducible rfl) rfl rfl ?_
      refine s_q (by (first | exact y_pickT rfl rfl | exact y_pickF rfl rfl)) rfl ?_
      refine s_done ?_
      have hr' := hr true (by rw [decide_eq_true (.inr (.inr (.inl h2)))])
      try dsimp only [List.cons_append, List.nil_append, List.append_nil] at hr'
      exact J.to hr' ⟨rfl, rfl, rfl, rfl, rfl, trivial⟩ tk
    obtain rfl : bc = true := by rw [hbc, decide_eq_true h2]
    by_cases h3 : (0 : Int) < i.xs.length
    · refine s_region ?_
      refine s_q (y_move rfl) rfl ?_
      refine s_q (by (first | exact y_as (y_eqlStr rfl rfl) (congrArg Value.bool (decide_eq_false h0)) | exact y_eql rfl rfl | exact y_eqlB rfl rfl rfl)) rfl ?_
      refine s_q (y_move rfl) rfl ?_
      refine s_guard2 rfl rfl (by with_reducible rfl) ?_
      refine s_q (y_move rfl) rfl ?_
      refine s_guard2 rfl rfl (by with_reducible rfl) ?_
      refine s_q (by (first | exact y_notT rfl | exact y_notF rfl | exact y_notp rfl | exact y_notb rfl)) rfl ?_
      refine s_q (by (first | exact y_pickT rfl rfl | exact y_pickF rfl rfl)) rfl ?_
      refine s_q (y_move rfl) rfl ?_
      refine s_guard2 rfl rfl (congrArg Value.bool (by decide)) ?_
      refine s_q (y_move rfl) rfl ?_
      refine s_guard2 rfl rfl (congrArg Value.bool (by decide)) ?_
      refine s_q (by (first | exact y_notT rfl | exact y_notF rfl | exact y_notp rfl | exact y_notb rfl)) rfl ?_
      refine s_q (by (first | exact y_pickT rfl rfl | exact y_pickF rfl rfl)) rfl ?_
      refine s_q (y_move rfl) rfl ?_
      refine s_guard2 rfl rfl (congrArg Value.bool (by decide)) ?_
      refine s_q (by (first | exact y_fieldAddrB rfl rfl rfl rfl rfl rfl | exact y_fieldAddr rfl rfl rfl rfl rfl rfl)) rfl ?_
      refine s_guard2 rfl rfl (congrArg Value.bool (by decide)) ?_
      refine s_q (by (first | exact y_ld rfl rfl rfl (by rfl) | exact y_ldN rfl rfl rfl (by rfl) | exact y_ldK rfl rfl rfl rfl (by assumption) (by omega) | exact y_ldI rfl rfl rfl rfl (by assumption) (by omega) (by omega))) rfl ?_
      refine s_guard2 rfl rfl (congrArg Value.bool (by decide)) ?_
      refine s_q (y_lenS rfl rfl rfl) rfl ?_
      refine s_guard2 rfl rfl (congrArg Value.bool (by decide)) ?_
      refine s_q (by (first | exact y_as (y_gtr rfl rfl) (congrArg Value.bool (decide_eq_true h3)) | exact y_gtr rfl rfl)) rfl ?_
      refine s_q (by (first | exact y_pickT rfl rfl | exact y_pickF rfl rfl)) rfl ?_
      refine s_q (y_move rfl) rfl ?_
      refine s_unguard2 (b := true) rfl rfl (by with_reducible rfl) rfl rfl ?_
      refine s_unguard2 (b := true) rfl rfl (by with_reducible rfl) rfl rfl ?_
      refine s_unguard2 (b := true) rfl rfl (by with_reducible rfl) rfl rfl ?_
      refine s_unguard2 (b := true) rfl rfl (by with_reducible rfl) rfl rfl ?_
      refine s_unguardU rfl rfl rfl ?_
      refine s_unguardU rfl rfl rfl ?_
      refine s_unguardU rfl rfl rfl ?_
      refine s_unguard2 (b := true) rfl rfl (by with_reducible rfl) rfl rfl ?_
      refine s_q (by (first | exact y_pickT rfl rfl | exact y_pickF rfl rfl)) rfl ?_
      refine s_q (y_move rfl) rfl ?_
      refine s_unguard2 (b := true) rfl rfl (by with_reducible rfl) rfl rfl ?_
      refine s_unguard2 (b := true) rfl rfl (by with_reducible rfl) rfl rfl ?_
      refine s_unguard2 (b := true) rfl rfl (by with_reducible rfl) rfl rfl ?_
      refine s_unguard2 (b := true) rfl rfl (by with_reducible rfl) rfl rfl ?_
      refine s_unguardU rfl rfl rfl ?_
      refine s_unguardU rfl rfl rfl ?_
      refine s_unguardU rfl rfl rfl ?_
      refine s_unguard2 (b := true) rfl rfl (by with_reducible rfl) rfl rfl ?_
      refine s_q (by (first | exact y_pickT rfl rfl | exact y_pickF rfl rfl)) rfl ?_
      refine s_q (y_move rfl) rfl ?_
      refine s_unguard2 (b := true) rfl rfl (by with_reducible rfl) rfl rfl ?_
      refine s_unguard2 (b := true) rfl rfl (by with_reducible rfl) rfl rfl ?_
      refine s_unguard2 (b := true) rfl rfl (by with_reducible rfl) rfl rfl ?_
      refine s_unguard2 (b := true) rfl rfl (by with_reducible rfl) rfl rfl ?_
      refine s_unguardU rfl rfl rfl ?_
      refine s_unguardU rfl rfl rfl ?_
      refine s_unguardU rfl rfl rfl ?_
      refine s_unguard2 (b := true) rfl rfl (by with_reducible rfl) rfl rfl ?_
      refine s_q (by (first | exact y_pickT rfl rfl | exact y_pickF rfl rfl)) rfl ?_
      refine s_done ?_
      have hr' := hr true (by rw [decide_eq_true (.inr (.inr (.inr (.inl (by omega)))))])
      try dsimp only [List.cons_append, List.nil_append, List.append_nil] at hr'
      exact J.to hr' ⟨rfl, rfl, rfl, rfl, rfl, trivial⟩ tk
    have g3 : ¬ 0 < i.xs.length := by omega
    refine s_region ?_
    refine s_q (y_move rfl) rfl ?_
    refine s_q (by (first | exact y_as (y_eqlStr rfl rfl) (congrArg Value.bool (decide_eq_false h0)) | exact y_eql rfl rfl | exact y_eqlB rfl rfl rfl)) rfl ?_
    refine s_q (y_move rfl) rfl ?_
    refine s_guard2 rfl rfl (by with_reducible rfl) ?_
    refine s_q (y_move rfl) rfl ?_
    refine s_guard2 rfl rfl (by with_reducible rfl) ?_
    refine s_q (by (first | exact y_notT rfl | exact y_notF rfl | exact y_notp rfl | exact y_notb rfl)) rfl ?_
    refine s_q (by (first | exact y_pickT rfl rfl | exact y_pickF rfl rfl)) rfl ?_
    refine s_q (y_move rfl) rfl ?_
    refine s_guard2 rfl rfl (congrArg Value.bool (by decide)) ?_
    refine s_q (y_move rfl) rfl ?_
    refine s_guard2 rfl rfl (congrArg Value.bool (by decide)) ?_
    refine s_q (by (first | exact y_notT rfl | exact y_notF rfl | exact y_notp rfl | exact y_notb rfl)) rfl ?_
    refine s_q (by (first | exact y_pickT rfl rfl | exact y_pickF rfl rfl)) rfl ?_
    refine s_q (y_move rfl) rfl ?_
    refine s_guard2 rfl rfl (congrArg Value.bool (by decide)) ?_
    refine s_q (by (first | exact y_fieldAddrB rfl rfl rfl rfl rfl rfl | exact y_fieldAddr rfl rfl rfl rfl rfl rfl)) rfl ?_
    refine s_guard2 rfl rfl (congrArg Value.bool (by decide)) ?_
    refine s_q (by (first | exact y_ld rfl rfl rfl (by rfl) | exact y_ldN rfl rfl rfl (by rfl) | exact y_ldK rfl rfl rfl rfl (by assumption) (by omega) | exact y_ldI rfl rfl rfl rfl (by assumption) (by omega) (by omega))) rfl ?_
    refine s_guard2 rfl rfl (congrArg Value.bool (by decide)) ?_
    refine s_q (y_lenS rfl rfl rfl) rfl ?_
    refine s_guard2 rfl rfl (congrArg Value.bool (by decide)) ?_
    refine s_q (by (first | exact y_as (y_gtr rfl rfl) (congrArg Value.bool (decide_eq_false h3)) | exact y_gtr rfl rfl)) rfl ?_
    refine s_q (by (first | exact y_pickT rfl rfl | exact y_pickF rfl rfl)) rfl ?_
    refine s_q (y_move rfl) rfl ?_
    refine s_guard2 rfl rfl (by with_reducible rfl) ?_
    refine s_q (y_move rfl) rfl ?_
    refine s_guard2 rfl rfl (by with_reducible rfl) ?_
    refine s_call (pre := []) (rem := _) rfl rfl tk (fun w N ho hl => in_spec w N (hasS i.op) 100 ho (hS _ 0)) rfl ?_
    rintro e L' ⟨rfl, rfl⟩
    try simp only [List.nil_append, List.cons_append, List.append_nil]
    rw [inS_d]
    by_cases p0 : hasP i.op &&& 1 ≠ 0
    · rw [decide_eq_true p0]
      refine s_guard2 rfl rfl (by with_reducible rfl) ?_
      refine s_q (by (first | exact y_notT rfl | exact y_notF rfl | exact y_notp rfl | exact y_notb rfl)) rfl ?_
      refine s_guard2 rfl rfl (by with_reducible rfl) ?_
      refine s_q (y_move rfl) rfl ?_
      refine s_unguard2 (b := false) rfl rfl (congrArg Value.bool (by decide)) rfl rfl ?_
      refine s_unguard2 (b := false) rfl rfl (congrArg Value.bool (by decide)) rfl rfl ?_
      refine s_unguard2 (b := false) rfl rfl (congrArg Value.bool (by decide)) rfl rfl ?_
      refine s_guard2 rfl rfl (by with_reducible rfl) ?_
      refine s_q (by (first | exact y_pickT rfl rfl | exact y_pickF rfl rfl)) rfl ?_
      refine s_q (by (first | exact y_pickT rfl rfl | exact y_pickF rfl rfl)) rfl ?_
      refine s_q (y_move rfl) rfl ?_
      refine s_guard2 rfl rfl (by with_reducible rfl) ?_
      refine s_q (y_move rfl) rfl ?_
      refine s_guard2 rfl rfl (by with_reducible rfl) ?_
      refine s_call (pre := []) (rem := _) rfl rfl tk (fun w N ho hl => in_spec w N (hasS i.op) 97 ho (hS _ 0)) rfl ?_
      rintro e L' ⟨rfl, rfl⟩
      try simp only [List.nil_append, List.cons_append, List.append_nil]
      rw [inS_a]
      by_cases p1 : hasP i.op &&& 2 ≠ 0
      · rw [decide_eq_true p1]
        refine s_guard2 rfl rfl (by with_reducible rfl) ?_
        refine s_q (by (first | exact y_notT rfl | exact y_notF rfl | exact y_notp rfl | exact y_notb rfl)) rfl ?_
        refine s_guard2 rfl rfl (by with_reducible rfl) ?_
        refine s_q (y_move rfl) rfl ?_
        refine s_unguard2 (b := false) rfl rfl (congrArg Value.bool (by decide)) rfl rfl ?_
        refine s_unguard2 (b := false) rfl rfl (congrArg Value.bool (by decide)) rfl rfl ?_
        refine s_unguard2 (b := false) rfl rfl (congrArg Value.bool (by decide)) rfl rfl ?_
        refine s_guard2 rfl rfl (by with_reducible rfl) ?_
        refine s_q (by (first | exact y_pickT rfl rfl | exact y_pickF rfl rfl)) rfl ?_
        refine s_q (by (first | exact y_pickT rfl rfl | exact y_pickF rfl rfl)) rfl ?_
        refine s_q (y_move rfl) rfl ?_
        refine s_guard2 rfl rfl (by with_reducible rfl) ?_
        refine s_q (y_move rfl) rfl ?_
        refine s_guard2 rfl rfl (by with_reducible rfl) ?_
        refine s_call (pre := []) (rem := _) rfl rfl tk (fun w N ho hl => in_spec w N (hasS i.op) 98 ho (hS _ 0)) rfl ?_
        rintro e L' ⟨rfl, rfl⟩
        try simp only [List.nil_append, List.cons_append, List.append_nil]
        rw [inS_b]
        by_cases p2 : hasP i.op &&& 4 ≠ 0
        · rw [decide_eq_true p2]
          refine s_guard2 rfl rfl (by with_reducible rfl) ?_
          refine s_q (by (first | exact y_notT rfl | exact y_notF rfl | exact y_notp rfl | exact y_notb rfl)) rfl ?_
          refine s_guard2 rfl rfl (by with_reducible rfl) ?_
          refine s_q (y_move rfl) rfl ?_
          refine s_unguard2 (b := false) rfl rfl (congrArg Value.bool (by decide)) rfl rfl ?_
          refine s_unguard2 (b := false) rfl rfl (congrArg Value.bool (by decide)) rfl rfl ?_
          refine s_unguard2 (b := false) rfl rfl (congrArg Value.bool (by decide)) rfl rfl ?_
          refine s_guard2 rfl rfl (by with_reducible rfl) ?_
          refine s_q (by (first | exact y_pickT rfl rfl | exact y_pickF rfl rfl)) rfl ?_
          refine s_q (by (first | exact y_pickT rfl rfl | exact y_pickF rfl rfl)) rfl ?_
          refine s_done ?_
          have hr' := hr false (by rw [decide_eq_false (fun x => x.elim g0 (fun x => x.elim (fun y => y h1) (fun x => x.elim (fun y => y h2) (fun x => x.elim g3 (fun x => x.elim (fun y => y.1 p0) (fun x => x.elim (fun y => y.1 p1) (fun y => y.1 p2)))))))])
          try dsimp only [List.cons_append, List.nil_append, List.append_nil] at hr'
          exact J.to hr' ⟨rfl, rfl, rfl, rfl, rfl, trivial⟩ tk
        · rw [decide_eq_false p2]
          by_cases z2 : i.b = 0
          · refine s_guard2 rfl rfl (by with_reducible rfl) ?_
            refine s_q (by (first | exact y_notT rfl | exact y_notF rfl | exact y_notp rfl | exact y_notb rfl)) rfl ?_
            refine s_guard2 rfl rfl (by with_reducible rfl) ?_
            refine s_q (y_move rfl) rfl ?_
            refine s_guard2 rfl rfl (congrArg Value.bool (by decide)) ?_
            refine s_q (by (first | exact y_fieldAddrB rfl rfl rfl rfl rfl rfl | exact y_fieldAddr rfl rfl rfl rfl rfl rfl)) rfl ?_
            refine s_guard2 rfl rfl (congrArg Value.bool (by decide)) ?_
            refine s_q (by (first | exact y_ld rfl rfl rfl (by rfl) | exact y_ldN rfl rfl rfl (by rfl) | exact y_ldK rfl rfl rfl rfl (by assumption) (by omega) | exact y_ldI rfl rfl rfl rfl (by assumption) (by omega) (by omega))) rfl ?_
            refine s_guard2 rfl rfl (congrArg Value.bool (by decide)) ?_
            refine s_q (by (first | exact y_as (y_neq rfl rfl) (congrArg Value.bool (decide_eq_false (fun h => h z2))) | exact y_neq rfl rfl | exact y_neqB rfl rfl rfl)) rfl ?_
            refine s_guard2 rfl rfl (by with_reducible rfl) ?_
            refine s_q (by (first | exact y_pickT rfl rfl | exact y_pickF rfl rfl)) rfl ?_
            refine s_q (by (first | exact y_pickT rfl rfl | exact y_pickF rfl rfl)) rfl ?_
            refine s_done ?_
            have hr' := hr false (by rw [decide_eq_false (fun x => x.elim g0 (fun x => x.elim (fun y => y h1) (fun x => x.elim (fun y => y h2) (fun x => x.elim g3 (fun x => x.elim (fun y => y.1 p0) (fun x => x.elim (fun y => y.1 p1) (fun y => y.2 z2)))))))])
            try dsimp only [List.cons_append, List.nil_append, List.append_nil] at hr'
            exact J.to hr' ⟨rfl, rfl, rfl, rfl, rfl, trivial⟩ tk
          · refine s_guard2 rfl rfl (by with_reducible rfl) ?_
            refine s_q (by (first | exact y_notT rfl | exact y_notF rfl | exact y_notp rfl | exact y_notb rfl)) rfl ?_
            refine s_guard2 rfl rfl (by with_reducible rfl) ?_
            refine s_q (y_move rfl) rfl ?_
            refine s_guard2 rfl rfl (congrArg Value.bool (by decide)) ?_
            refine s_q (by (first | exact y_fieldAddrB rfl rfl rfl rfl rfl rfl | exact y_fieldAddr rfl rfl rfl rfl rfl rfl)) rfl ?_
            refine s_guard2 rfl rfl (congrArg Value.bool (by decide)) ?_
            refine s_q (by (first | exact y_ld rfl rfl rfl (by rfl) | exact y_ldN rfl rfl rfl (by rfl) | exact y_ldK rfl rfl rfl rfl (by assumption) (by omega) | exact y_ldI rfl rfl rfl rfl (by assumption) (by omega) (by omega))) rfl ?_
            refine s_guard2 rfl rfl (congrArg Value.bool (by decide)) ?_
            refine s_q (by (first | exact y_as (y_neq rfl rfl) (congrArg Value.bool (decide_eq_true z2)) | exact y_neq rfl rfl | exact y_neqB rfl rfl rfl)) rfl ?_
            refine s_guard2 rfl rfl (by with_reducible rfl) ?_
            refine s_q (by (first | exact y_pickT rfl rfl | exact y_pickF rfl rfl)) rfl ?_
            refine s_q (by (first | exact y_pickT rfl rfl | exact y_pickF rfl rfl)) rfl ?_
            refine s_done ?_
            have hr' := hr true (by rw [decide_eq_true (.inr (.inr (.inr (.inr (.inr (.inr (⟨p2, z2⟩)))))))])
            try dsimp only [List.cons_append, List.nil_append, List.append_nil] at hr'
            exact J.to hr' ⟨rfl, rfl, rfl, rfl, rfl, trivial⟩ tk
      · rw [decide_eq_false p1]
        by_cases z1 : i.a = 0
        · refine s_guard2 rfl rfl (by with_reducible rfl) ?_
          refine s_q (by (first | exact y_notT rfl | exact y_notF rfl | exact y_notp rfl | exact y_notb rfl)) rfl ?_
          refine s_guard2 rfl rfl (by with_reducible rfl) ?_
          refine s_q (y_move rfl) rfl ?_
          refine s_guard2 rfl rfl (congrArg Value.bool (by decide)) ?_
          refine s_q (by (first | exact y_fieldAddrB rfl rfl rfl rfl rfl rfl | exact y_fieldAddr rfl rfl rfl rfl rfl rfl)) rfl ?_
          refine s_guard2 rfl rfl (congrArg Value.bool (by decide)) ?_
          refine s_q (by (first | exact y_ld rfl rfl rfl (by rfl) | exact y_ldN rfl rfl rfl (by rfl) | exact y_ldK rfl rfl rfl rfl (by assumption) (by omega) | exact y_ldI rfl rfl rfl rfl (by assumption) (by omega) (by omega))) rfl ?_
          refine s_guard2 rfl rfl (congrArg Value.bool (by decide)) ?_
          refine s_q (by (first | exact y_as (y_neq rfl rfl) (congrArg Value.bool (decide_eq_false (fun h => h z1))) | exact y_neq rfl rfl | exact y_neqB rfl rfl rfl)) rfl ?_
          refine s_guard2 rfl rfl (by with_reducible rfl) ?_
          refine s_q (by (first | exact y_pickT rfl rfl | exact y_pickF rfl rfl)) rfl ?_
          refine s_q (by (first | exact y_pickT rfl rfl | exact y_pickF rfl rfl)) rfl ?_
          refine s_q (y_move rfl) rfl ?_
          refine s_guard2 rfl rfl (by with_reducible rfl) ?_
          refine s_q (y_move rfl) rfl ?_
          refine s_guard2 rfl rfl (by with_reducible rfl) ?_
          refine s_call (pre := []) (rem := _) rfl rfl tk (fun w N ho hl => in_spec w N (hasS i.op) 98 ho (hS _ 0)) rfl ?_
          rintro e L' ⟨rfl, rfl⟩
          try simp only [List.nil_append, List.cons_append, List.append_nil]
          rw [inS_b]
          by_cases p2 : hasP i.op &&& 4 ≠ 0
          · rw [decide_eq_true p2]
            refine s_guard2 rfl rfl (by with_reducible rfl) ?_
            refine s_q (by (first | exact y_notT rfl | exact y_notF rfl | exact y_notp rfl | exact y_notb rfl)) rfl ?_
            refine s_guard2 rfl rfl (by with_reducible rfl) ?_
            refine s_q (y_move rfl) rfl ?_
            refine s_unguard2 (b := false) rfl rfl (congrArg Value.bool (by decide)) rfl rfl ?_
            refine s_unguard2 (b := false) rfl rfl (congrArg Value.bool (by decide)) rfl rfl ?_
            refine s_unguard2 (b := false) rfl rfl (congrArg Value.bool (by decide)) rfl rfl ?_
            refine s_guard2 rfl rfl (by with_reducible rfl) ?_
            refine s_q (by (first | exact y_pickT rfl rfl | exact y_pickF rfl rfl)) rfl ?_
            refine s_q (by (first | exact y_pickT rfl rfl | exact y_pickF rfl rfl)) rfl ?_
            refine s_done ?_
            have hr' := hr false (by rw [decide_eq_false (fun x => x.elim g0 (fun x => x.elim (fun y => y h1) (fun x => x.elim (fun y => y h2) (fun x => x.elim g3 (fun x => x.elim (fun y => y.1 p0) (fun x => x.elim (fun y => y.2 z1) (fun y => y.1 p2)))))))])
            try dsimp only [List.cons_append, List.nil_append, List.append_nil] at hr'
            exact J.to hr' ⟨rfl, rfl, rfl, rfl, rfl, trivial⟩ tk
          · rw [decide_eq_false p2]
            by_cases z2 : i.b = 0
            · refine s_guard2 rfl rfl (by with_reducible rfl) ?_
              refine s_q (by (first | exact y_notT rfl | exact y_notF rfl | exact y_notp rfl | exact y_notb rfl)) rfl ?_
              refine s_guard2 rfl rfl (by with_reducible rfl) ?_
              refine s_q (y_move rfl) rfl ?_
              refine s_guard2 rfl rfl (congrArg Value.bool (by decide)) ?_
              refine s_q (by (first | exact y_fieldAddrB rfl rfl rfl rfl rfl rfl | exact y_fieldAddr rfl rfl rfl rfl rfl rfl)) rfl ?_
              refine s_guard2 rfl rfl (congrArg Value.bool (by decide)) ?_
              refine s_q (by (first | exact y_ld rfl rfl rfl (by rfl) | exact y_ldN rfl rfl rfl (by rfl) | exact y_ldK rfl rfl rfl rfl (by assumption) (by omega) | exact y_ldI rfl rfl rfl rfl (by assumption) (by omega) (by omega))) rfl ?_
              refine s_guard2 rfl rfl (congrArg Value.bool (by decide)) ?_
              refine s_q (by (first | exact y_as (y_neq rfl rfl) (congrArg Value.bool (decide_eq_false (fun h => h z2))) | exact y_neq rfl rfl | exact y_neqB rfl rfl rfl)) rfl ?_
              refine s_guard2 rfl rfl (by with_reducible rfl) ?_
              refine s_q (by (first | exact y_pickT rfl rfl | exact y_pickF rfl rfl)) rfl ?_
              refine s_q (by (first | exact y_pickT rfl rfl | exact y_pickF rfl rfl)) rfl ?_
              refine s_done ?_
              have hr' := hr false (by rw [decide_eq_false (fun x => x.elim g0 (fun x => x.elim (fun y => y h1) (fun x => x.elim (fun y => y h2) (fun x => x.elim g3 (fun x => x.elim (fun y => y.1 p0) (fun x => x.elim (fun y => y.2 z1) (fun y => y.2 z2)))))))])
              try dsimp only [List.cons_append, List.nil_append, List.append_nil] at hr'
              exact J.to hr' ⟨rfl, rfl, rfl, rfl, rfl, trivial⟩ tk
            · refine s_guard2 rfl rfl (by with_reducible rfl) ?_
              refine s_q (by (first | exact y_notT rfl | exact y_notF rfl | exact y_notp rfl | exact y_notb rfl)) rfl ?_
              refine s_guard2 rfl rfl (by with_reducible rfl) ?_
              refine s_q (y_move rfl) rfl ?_
              refine s_guard2 rfl rfl (congrArg Value.bool (by decide)) ?_
              refine s_q (by (first | exact y_fieldAddrB rfl rfl rfl rfl rfl rfl | exact y_fieldAddr rfl rfl rfl rfl rfl rfl)) rfl ?_
              refine s_guard2 rfl rfl (congrArg Value.bool (by decide)) ?_
              refine s_q (by (first | exact y_ld rfl rfl rfl (by rfl) | exact y_ldN rfl rfl rfl (by rfl) | exact y_ldK rfl rfl rfl rfl (by assumption) (by omega) | exact y_ldI rfl rfl rfl rfl (by assumption) (by omega) (by omega))) rfl ?_
              refine s_guard2 rfl rfl (congrArg Value.bool (by decide)) ?_
              refine s_q (by (first | exact y_as (y_neq rfl rfl) (congrArg Value.bool (decide_eq_true z2)) | exact y_neq rfl rfl | exact y_neqB rfl rfl rfl)) rfl ?_
              refine s_guard2 rfl rfl (by with_reducible rfl) ?_
              refine s_q (by (first | exact y_pickT rfl rfl | exact y_pickF rfl rfl)) rfl ?_
              refine s_q (by (first | exact y_pickT rfl rfl | exact y_pickF rfl rfl)) rfl ?_
              refine s_done ?_
              have hr' := hr true (by rw [decide_eq_true (.inr (.inr (.inr (.inr (.inr (.inr (⟨p2, z2⟩)))))))])
              try dsimp only [List.cons_append, List.nil_append, List.append_nil] at hr'
              exact J.to hr' ⟨rfl, rfl, rfl, rfl, rfl, trivial⟩ tk
        · refine s_guard2 rfl rfl (by with_reducible rfl) ?_
          refine s_q (by (first | exact y_notT rfl | exact y_notF rfl | exact y_notp rfl | exact y_notb rfl)) rfl ?_
          refine s_guard2 rfl rfl (by with_reducible rfl) ?_
          refine s_q (y_move rfl) rfl ?_
          refine s_guard2 rfl rfl (congrArg Value.bool (by decide)) ?_
          refine s_q (by (first | exact y_fieldAddrB rfl rfl rfl rfl rfl rfl | exact y_fieldAddr rfl rfl rfl rfl rfl rfl)) rfl ?_
          refine s_guard2 rfl rfl (congrArg Value.bool (by decide)) ?_
          refine s_q (by (first | exact y_ld rfl rfl rfl (by rfl) | exact y_ldN rfl rfl rfl (by rfl) | exact y_ldK rfl rfl rfl rfl (by assumption) (by omega) | exact y_ldI rfl rfl rfl rfl (by assumption) (by omega) (by omega))) rfl ?_
          refine s_guard2 rfl rfl (congrArg Value.bool (by decide)) ?_
          refine s_q (by (first | exact y_as (y_neq rfl rfl) (congrArg Value.bool (decide_eq_true z1)) | exact y_neq rfl rfl | exact y_neqB rfl rfl rfl)) rfl ?_
          refine s_guard2 rfl rfl (by with_reducible rfl) ?_
          refine s_q (by (first | exact y_pickT rfl rfl | exact y_pickF rfl rfl)) rfl ?_
          refine s_q (by (first | exact y_pickT rfl rfl | exact y_pickF rfl rfl)) rfl ?_
          refine s_q (y_move rfl) rfl ?_
          refine s_unguard2 (b := true) rfl rfl (by with_reducible rfl) rfl rfl ?_
          refine s_unguard2 (b := true) rfl rfl (by with_reducible rfl) rfl rfl ?_
          refine s_unguard2 (b := true) rfl rfl (by with_reducible rfl) rfl rfl ?_
          refine s_unguard2 (b := true) rfl rfl (by with_reducible rfl) rfl rfl ?_
          refine s_unguardU rfl rfl rfl ?_
          refine s_unguardU rfl rfl rfl ?_
          refine s_unguardU rfl rfl rfl ?_
          refine s_unguard2 (b := true) rfl rfl (by with_reducible rfl) rfl rfl ?_
          refine s_q (by (first | exact y_pickT rfl rfl | exact y_pickF rfl rfl)) rfl ?_
          refine s_done ?_
          have hr' := hr true (by rw [decide_eq_true (.inr (.inr (.inr (.inr (.inr (.inl ⟨p1, z1⟩))))))])
          try dsimp only [List.cons_append, List.nil_append, List.append_nil] at hr'
          exact J.to hr' ⟨rfl, rfl, rfl, rfl, rfl, trivial⟩ tk
    · rw [decide_eq_false p0]
      by_cases z0 : i.dst = 0
      · refine s_guard2 rfl rfl (by with_reducible rfl) ?_
        refine s_q (by (first | exact y_notT rfl | exact y_notF rfl | exact y_notp rfl | exact y_notb rfl)) rfl ?_
        refine s_guard2 rfl rfl (by with_reducible rfl) ?_
        refine s_q (y_move rfl) rfl ?_
        refine s_guard2 rfl rfl (congrArg Value.bool (by decide)) ?_
        refine s_q (by (first | exact y_fieldAddrB rfl rfl rfl rfl rfl rfl | exact y_fieldAddr rfl rfl rfl rfl rfl rfl)) rfl ?_
        refine s_guard2 rfl rfl (congrArg Value.bool (by decide)) ?_
        refine s_q (by (first | exact y_ld rfl rfl rfl (by rfl) | exact y_ldN rfl rfl rfl (by rfl) | exact y_ldK rfl rfl rfl rfl (by assumption) (by omega) | exact y_ldI rfl rfl rfl rfl (by assumption) (by omega) (by omega))) rfl ?_
        refine s_guard2 rfl rfl (congrArg Value.bool (by decide)) ?_
        refine s_q (by (first | exact y_as (y_neq rfl rfl) (congrArg Value.bool (decide_eq_false (fun h => h z0))) | exact y_neq rfl rfl | exact y_neqB rfl rfl rfl)) rfl ?_
        refine s_guard2 rfl rfl (by with_reducible rfl) ?_
        refine s_q (by (first | exact y_pickT rfl rfl | exact y_pickF rfl rfl)) rfl ?_
        refine s_q (by (first | exact y_pickT rfl rfl | exact y_pickF rfl rfl)) rfl ?_
        refine s_q (y_move rfl) rfl ?_
        refine s_guard2 rfl rfl (by with_reducible rfl) ?_
        refine s_q (y_move rfl) rfl ?_
        refine s_guard2 rfl rfl (by with_reducible rfl) ?_
        refine s_call (pre := []) (rem := _) rfl rfl tk (fun w N ho hl => in_spec w N (hasS i.op) 97 ho (hS _ 0)) rfl ?_
        rintro e L' ⟨rfl, rfl⟩
        try simp only [List.nil_append, List.cons_append, List.append_nil]
        rw [inS_a]
        by_cases p1 : hasP i.op &&& 2 ≠ 0
        · rw [decide_eq_true p1]
          refine s_guard2 rfl rfl (by with_reducible rfl) ?_
          refine s_q (by (first | exact y_notT rfl | exact y_notF rfl | exact y_notp rfl | exact y_notb rfl)) rfl ?_
          refine s_guard2 rfl rfl (by with_reducible rfl) ?_
          refine s_q (y_move rfl) rfl ?_
          refine s_unguard2 (b := false) rfl rfl (congrArg Value.bool (by decide)) rfl rfl ?_
          refine s_unguard2 (b := false) rfl rfl (congrArg Value.bool (by decide)) rfl rfl ?_
          refine s_unguard2 (b := false) rfl rfl (congrArg Value.bool (by decide)) rfl rfl ?_
          refine s_guard2 rfl rfl (by with_reducible rfl) ?_
          refine s_q (by (first | exact y_pickT rfl rfl | exact y_pickF rfl rfl)) rfl ?_
          refine s_q (by (first | exact y_pickT rfl rfl | exact y_pickF rfl rfl)) rfl ?_
          refine s_q (y_move rfl) rfl ?_
          refine s_guard2 rfl rfl (by with_reducible rfl) ?_
          refine s_q (y_move rfl) rfl ?_
          refine s_guard2 rfl rfl (by with_reducible rfl) ?_
          refine s_call (pre := []) (rem := _) rfl rfl tk (fun w N ho hl => in_spec w N (hasS i.op) 98 ho (hS _ 0)) rfl ?_
          rintro e L' ⟨rfl, rfl⟩
          try simp only [List.nil_append, List.cons_append, List.append_nil]
          rw [inS_b]
          by_cases p2 : hasP i.op &&& 4 ≠ 0
          · rw [decide_eq_true p2]
            refine s_guard2 rfl rfl (by with_reducible rfl) ?_
            refine s_q (by (first | exact y_notT rfl | exact y_notF rfl | exact y_notp rfl | exact y_notb rfl)) rfl ?_
            refine s_guard2 rfl rfl (by with_reducible rfl) ?_
            refine s_q (y_move rfl) rfl ?_
            refine s_unguard2 (b := false) rfl rfl (congrArg Value.bool (by decide)) rfl rfl ?_
            refine s_unguard2 (b := false) rfl rfl (congrArg Value.bool (by decide)) rfl rfl ?_
            refine s_unguard2 (b := false) rfl rfl (congrArg Value.bool (by decide)) rfl rfl ?_
            refine s_guard2 rfl rfl (by with_reducible rfl) ?_
            refine s_q (by (first | exact y_pickT rfl rfl | exact y_pickF rfl rfl)) rfl ?_
            refine s_q (by (first | exact y_pickT rfl rfl | exact y_pickF rfl rfl)) rfl ?_
            refine s_done ?_
            have hr' := hr false (by rw [decide_eq_false (fun x => x.elim g0 (fun x => x.elim (fun y => y h1) (fun x => x.elim (fun y => y h2) (fun x => x.elim g3 (fun x => x.elim (fun y => y.2 z0) (fun x => x.elim (fun y => y.1 p1) (fun y => y.1 p2)))))))])
            try dsimp only [List.cons_append, List.nil_append, List.append_nil] at hr'
            exact J.to hr' ⟨rfl, rfl, rfl, rfl, rfl, trivial⟩ tk
          · rw [decide_eq_false p2]
            by_cases z2 : i.b = 0
            · refine s_guard2 rfl rfl (by with_reducible rfl) ?_
              refine s_q (by (first | exact y_notT rfl | exact y_notF rfl | exact y_notp rfl | exact y_notb rfl)) rfl ?_
              refine s_guard2 rfl rfl (by with_reducible rfl) ?_
              refine s_q (y_move rfl) rfl ?_
              refine s_guard2 rfl rfl (congrArg Value.bool (by decide)) ?_
              refine s_q (by (first | exact y_fieldAddrB rfl rfl rfl rfl rfl rfl | exact y_fieldAddr rfl rfl rfl rfl rfl rfl)) rfl ?_
              refine s_guard2 rfl rfl (congrArg Value.bool (by decide)) ?_
              refine s_q (by (first | exact y_ld rfl rfl rfl (by rfl) | exact y_ldN rfl rfl rfl (by rfl) | exact y_ldK rfl rfl rfl rfl (by assumption) (by omega) | exact y_ldI rfl rfl rfl rfl (by assumption) (by omega) (by omega))) rfl ?_
              refine s_guard2 rfl rfl (congrArg Value.bool (by decide)) ?_
              refine s_q (by (first | exact y_as (y_neq rfl rfl) (congrArg Value.bool (decide_eq_false (fun h => h z2))) | exact y_neq rfl rfl | exact y_neqB rfl rfl rfl)) rfl ?_
              refine s_guard2 rfl rfl (by with_reducible rfl) ?_
              refine s_q (by (first | exact y_pickT rfl rfl | exact y_pickF rfl rfl)) rfl ?_
              refine s_q (by (first | exact y_pickT rfl rfl | exact y_pickF rfl rfl)) rfl ?_
              refine s_done ?_
              have hr' := hr false (by rw [decide_eq_false (fun x => x.elim g0 (fun x => x.elim (fun y => y h1) (fun x => x.elim (fun y => y h2) (fun x => x.elim g3 (fun x => x.elim (fun y => y.2 z0) (fun x => x.elim (fun y => y.1 p1) (fun y => y.2 z2)))))))])
              try dsimp only [List.cons_append, List.nil_append, List.append_nil] at hr'
              exact J.to hr' ⟨rfl, rfl, rfl, rfl, rfl, trivial⟩ tk
            · refine s_guard2 rfl rfl (by with_reducible rfl) ?_
              refine s_q (by (first | exact y_notT rfl | exact y_notF rfl | exact y_notp rfl | exact y_notb rfl)) rfl ?_
              refine s_guard2 rfl rfl (by with_reducible rfl) ?_
              refine s_q (y_move rfl) rfl ?_
              refine s_guard2 rfl rfl (congrArg Value.bool (by decide)) ?_
              refine s_q (by (first | exact y_fieldAddrB rfl rfl rfl rfl rfl rfl | exact y_fieldAddr rfl rfl rfl rfl rfl rfl)) rfl ?_
              refine s_guard2 rfl rfl (congrArg Value.bool (by decide)) ?_
              refine s_q (by (first | exact y_ld rfl rfl rfl (by rfl) | exact y_ldN rfl rfl rfl (by rfl) | exact y_ldK rfl rfl rfl rfl (by assumption) (by omega) | exact y_ldI rfl rfl rfl rfl (by assumption) (by omega) (by omega))) rfl ?_
              refine s_guard2 rfl rfl (congrArg Value.bool (by decide)) ?_
              refine s_q (by (first | exact y_as (y_neq rfl rfl) (congrArg Value.bool (decide_eq_true z2)) | exact y_neq rfl rfl | exact y_neqB rfl rfl rfl)) rfl ?_
              refine s_guard2 rfl rfl (by with_reducible rfl) ?_
              refine s_q (by (first | exact y_pickT rfl rfl | exact y_pickF rfl rfl)) rfl ?_
              refine s_q (by (first | exact y_pickT rfl rfl | exact y_pickF rfl rfl)) rfl ?_
              refine s_done ?_
              have hr' := hr true (by rw [decide_eq_true (.inr (.inr (.inr (.inr (.inr (.inr (⟨p2, z2⟩)))))))])
              try dsimp only [List.cons_append, List.nil_append, List.append_nil] at hr'
              exact J.to hr' ⟨rfl, rfl, rfl, rfl, rfl, trivial⟩ tk
        · rw [decide_eq_false p1]
          by_cases z1 : i.a = 0
          · refine s_guard2 rfl rfl (by with_reducible rfl) ?_
            refine s_q (by (first | exact y_notT rfl | exact y_notF rfl | exact y_notp rfl | exact y_notb rfl)) rfl ?_
            refine s_guard2 rfl rfl (by with_reducible rfl) ?_
            refine s_q (y_move rfl) rfl ?_
            refine s_guard2 rfl rfl (congrArg Value.bool (by decide)) ?_
            refine s_q (by (first | exact y_fieldAddrB rfl rfl rfl rfl rfl rfl | exact y_fieldAddr rfl rfl rfl rfl rfl rfl)) rfl ?_
            refine s_guard2 rfl rfl (congrArg Value.bool (by decide)) ?_
            refine s_q (by (first | exact y_ld rfl rfl rfl (by rfl) | exact y_ldN rfl rfl rfl (by rfl) | exact y_ldK rfl rfl rfl rfl (by assumption) (by omega) | exact y_ldI rfl rfl rfl rfl (by assumption) (by omega) (by omega))) rfl ?_
            refine s_guard2 rfl rfl (congrArg Value.bool (by decide)) ?_
            refine s_q (by (first | exact y_as (y_neq rfl rfl) (congrArg Value.bool (decide_eq_false (fun h => h z1))) | exact y_neq rfl rfl | exact y_neqB rfl rfl rfl)) rfl ?_
            refine s_guard2 rfl rfl (by with_reducible rfl) ?_
            refine s_q (by (first | exact y_pickT rfl rfl | exact y_pickF rfl rfl)) rfl ?_
            refine s_q (by (first | exact y_pickT rfl rfl | exact y_pickF rfl rfl)) rfl ?_
            refine s_q (y_move rfl) rfl ?_
            refine s_guard2 rfl rfl (by with_reducible rfl) ?_
            refine s_q (y_move rfl) rfl ?_
            refine s_guard2 rfl rfl (by with_reducible rfl) ?_
            refine s_call (pre := []) (rem := _) rfl rfl tk (fun w N ho hl => in_spec w N (hasS i.op) 98 ho (hS _ 0)) rfl ?_
            rintro e L' ⟨rfl, rfl⟩
            try simp only [List.nil_append, List.cons_append, List.append_nil]
            rw [inS_b]
            by_cases p2 : hasP i.op &&& 4 ≠ 0
            · rw [decide_eq_true p2]
              refine s_guard2 rfl rfl (by with_reducible rfl) ?_
              refine s_q (by (first | exact y_notT rfl | exact y_notF rfl | exact y_notp rfl | exact y_notb rfl)) rfl ?_
              refine s_guard2 rfl rfl (by with_reducible rfl) ?_
              refine s_q (y_move rfl) rfl ?_
              refine s_unguard2 (b := false) rfl rfl (congrArg Value.bool (by decide)) rfl rfl ?_
              refine s_unguard2 (b := false) rfl rfl (congrArg Value.bool (by decide)) rfl rfl ?_
              refine s_unguard2 (b := false) rfl rfl (congrArg Value.bool (by decide)) rfl rfl ?_
              refine s_guard2 rfl rfl (by with_reducible rfl) ?_
              refine s_q (by (first | exact y_pickT rfl rfl | exact y_pickF rfl rfl)) rfl ?_
              refine s_q (by (first | exact y_pickT rfl rfl | exact y_pickF rfl rfl)) rfl ?_
              refine s_done ?_
              have hr' := hr false (by rw [decide_eq_false (fun x => x.elim g0 (fun x => x.elim (fun y => y h1) (fun x => x.elim (fun y => y h2) (fun x => x.elim g3 (fun x => x.elim (fun y => y.2 z0) (fun x => x.elim (fun y => y.2 z1) (fun y => y.1 p2)))))))])
              try dsimp only [List.cons_append, List.nil_append, List.append_nil] at hr'
              exact J.to hr' ⟨rfl, rfl, rfl, rfl, rfl, trivial⟩ tk
            · rw [decide_eq_false p2]
              by_cases z2 : i.b = 0
              · refine s_guard2 rfl rfl (by with_reducible rfl) ?_
                refine s_q (by (first | exact y_notT rfl | exact y_notF rfl | exact y_notp rfl | exact y_notb rfl)) rfl ?_
                refine s_guard2 rfl rfl (by with_reducible rfl) ?_
                refine s_q (y_move rfl) rfl ?_
                refine s_guard2 rfl rfl (congrArg Value.bool (by decide)) ?_
                refine s_q (by (first | exact y_fieldAddrB rfl rfl rfl rfl rfl rfl | exact y_fieldAddr rfl rfl rfl rfl rfl rfl)) rfl ?_
                refine s_guard2 rfl rfl (congrArg Value.bool (by decide)) ?_
                refine s_q (by (first | exact y_ld rfl rfl rfl (by rfl) | exact y_ldN rfl rfl rfl (by rfl) | exact y_ldK rfl rfl rfl rfl (by assumption) (by omega) | exact y_ldI rfl rfl rfl rfl (by assumption) (by omega) (by omega))) rfl ?_
                refine s_guard2 rfl rfl (congrArg Value.bool (by decide)) ?_
                refine s_q (by (first | exact y_as (y_neq rfl rfl) (congrArg Value.bool (decide_eq_false (fun h => h z2))) | exact y_neq rfl rfl | exact y_neqB rfl rfl rfl)) rfl ?_
                refine s_guard2 rfl rfl (by with_reducible rfl) ?_
                refine s_q (by (first | exact y_pickT rfl rfl | exact y_pickF rfl rfl)) rfl ?_
                refine s_q (by (first | exact y_pickT rfl rfl | exact y_pickF rfl rfl)) rfl ?_
                refine s_done ?_
                have hr' := hr false (by rw [decide_eq_false (fun x => x.elim g0 (fun x => x.elim (fun y => y h1) (fun x => x.elim (fun y => y h2) (fun x => x.elim g3 (fun x => x.elim (fun y => y.2 z0) (fun x => x.elim (fun y => y.2 z1) (fun y => y.2 z2)))))))])
                try dsimp only [List.cons_append, List.nil_append, List.append_nil] at hr'
                exact J.to hr' ⟨rfl, rfl, rfl, rfl, rfl, trivial⟩ tk
              · refine s_guard2 rfl rfl (by with_reducible rfl) ?_
                refine s_q (by (first | exact y_notT rfl | exact y_notF rfl | exact y_notp rfl | exact y_notb rfl)) rfl ?_
                refine s_guard2 rfl rfl (by with_reducible rfl) ?_
                refine s_q (y_move rfl) rfl ?_
                refine s_guard2 rfl rfl (congrArg Value.bool (by decide)) ?_
                refine s_q (by (first | exact y_fieldAddrB rfl rfl rfl rfl rfl rfl | exact y_fieldAddr rfl rfl rfl rfl rfl rfl)) rfl ?_
                refine s_guard2 rfl rfl (congrArg Value.bool (by decide)) ?_
                refine s_q (by (first | exact y_ld rfl rfl rfl (by rfl) | exact y_ldN rfl rfl rfl (by rfl) | exact y_ldK rfl rfl rfl rfl (by assumption) (by omega) | exact y_ldI rfl rfl rfl rfl (by assumption) (by omega) (by omega))) rfl ?_
                refine s_guard2 rfl rfl (congrArg Value.bool (by decide)) ?_
                refine s_q (by (first | exact y_as (y_neq rfl rfl) (congrArg Value.bool (decide_eq_true z2)) | exact y_neq rfl rfl | exact y_neqB rfl rfl rfl)) rfl ?_
                refine s_guard2 rfl rfl (by with_reducible rfl) ?_
                refine s_q (by (first | exact y_pickT rfl rfl | exact y_pickF rfl rfl)) rfl ?_
                refine s_q (by (first | exact y_pickT rfl rfl | exact y_pickF rfl rfl)) rfl ?_
                refine s_done ?_
                have hr' := hr true (by rw [decide_eq_true (.inr (.inr (.inr (.inr (.inr (.inr (⟨p2, z2⟩)))))))])
                try dsimp only [List.cons_append, List.nil_append, List.append_nil] at hr'
                exact J.to hr' ⟨rfl, rfl, rfl, rfl, rfl, trivial⟩ tk
          · refine s_guard2 rfl rfl (by with_reducible rfl) ?_
            refine s_q (by (first | exact y_notT rfl | exact y_notF rfl | exact y_notp rfl | exact y_notb rfl)) rfl ?_
            refine s_guard2 rfl rfl (by with_reducible rfl) ?_
            refine s_q (y_move rfl) rfl ?_
            refine s_guard2 rfl rfl (congrArg Value.bool (by decide)) ?_
            refine s_q (by (first | exact y_fieldAddrB rfl rfl rfl rfl rfl rfl | exact y_fieldAddr rfl rfl rfl rfl rfl rfl)) rfl ?_
            refine s_guard2 rfl rfl (congrArg Value.bool (by decide)) ?_
            refine s_q (by (first | exact y_ld rfl rfl rfl (by rfl) | exact y_ldN rfl rfl rfl (by rfl) | exact y_ldK rfl rfl rfl rfl (by assumption) (by omega) | exact y_ldI rfl rfl rfl rfl (by assumption) (by omega) (by omega))) rfl ?_
            refine s_guard2 rfl rfl (congrArg Value.bool (by decide)) ?_
            refine s_q (by (first | exact y_as (y_neq rfl rfl) (congrArg Value.bool (decide_eq_true z1)) | exact y_neq rfl rfl | exact y_neqB rfl rfl rfl)) rfl ?_
            refine s_guard2 rfl rfl (by with_reducible rfl) ?_
            refine s_q (by (first | exact y_pickT rfl rfl | exact y_pickF rfl rfl)) rfl ?_
            refine s_q (by (first | exact y_pickT rfl rfl | exact y_pickF rfl rfl)) rfl ?_
            refine s_q (y_move rfl) rfl ?_
            refine s_unguard2 (b := true) rfl rfl (by with_reducible rfl) rfl rfl ?_
            refine s_unguard2 (b := true) rfl rfl (by with_reducible rfl) rfl rfl ?_
            refine s_unguard2 (b := true) rfl rfl (by with_reducible rfl) rfl rfl ?_
            refine s_unguard2 (b := true) rfl rfl (by with_reducible rfl) rfl rfl ?_
            refine s_unguardU rfl rfl rfl ?_
            refine s_unguardU rfl rfl rfl ?_
            refine s_unguardU rfl rfl rfl ?_
            refine s_unguard2 (b := true) rfl rfl (by with_reducible rfl) rfl rfl ?_
            refine s_q (by (first | exact y_pickT rfl rfl | exact y_pickF rfl rfl)) rfl ?_
            refine s_done ?_
            have hr' := hr true (by rw [decide_eq_true (.inr (.inr (.inr (.inr (.inr (.inl ⟨p1, z1⟩))))))])
            try dsimp only [List.cons_append, List.nil_append, List.append_nil] at hr'
            exact J.to hr' ⟨rfl, rfl, rfl, rfl, rfl, trivial⟩ tk
      · refine s_guard2 rfl rfl (by with_reducible rfl) ?_
        refine s_q (by (first | exact y_notT rfl | exact y_notF rfl | exact y_notp rfl | exact y_notb rfl)) rfl ?_
        refine s_guard2 rfl rfl (by with_reducible rfl) ?_
        refine s_q (y_move rfl) rfl ?_
        refine s_guard2 rfl rfl (congrArg Value.bool (by decide)) ?_
        refine s_q (by (first | exact y_fieldAddrB rfl rfl rfl rfl rfl rfl | exact y_fieldAddr rfl rfl rfl rfl rfl rfl)) rfl ?_
        refine s_guard2 rfl rfl (congrArg Value.bool (by decide)) ?_
        refine s_q (by (first | exact y_ld rfl rfl rfl (by rfl) | exact y_ldN rfl rfl rfl (by rfl) | exact y_ldK rfl rfl rfl rfl (by assumption) (by omega) | exact y_ldI rfl rfl rfl rfl (by assumption) (by omega) (by omega))) rfl ?_
        refine s_guard2 rfl rfl (congrArg Value.bool (by decide)) ?_
        refine s_q (by (first | exact y_as (y_neq rfl rfl) (congrArg Value.bool (decide_eq_true z0)) | exact y_neq rfl rfl | exact y_neqB rfl rfl rfl)) rfl ?_
        refine s_guard2 rfl rfl (by with_reducible rfl) ?_
        refine s_q (by (first | exact y_pickT rfl rfl | exact y_pickF rfl rfl)) rfl ?_
        refine s_q (by (first | exact y_pickT rfl rfl | exact y_pickF rfl rfl)) rfl ?_
        refine s_q (y_move rfl) rfl ?_
        refine s_unguard2 (b := true) rfl rfl (by with_reducible rfl) rfl rfl ?_
        refine s_unguard2 (b := true) rfl rfl (by with_reducible rfl) rfl rfl ?_
        refine s_unguard2 (b := true) rfl rfl (by with_reducible rfl) rfl rfl ?_
        refine s_unguard2 (b := true) rfl rfl (by with_reducible rfl) rfl rfl ?_
        refine s_unguardU rfl rfl rfl ?_
        refine s_unguardU rfl rfl rfl ?_
        refine s_unguardU rfl rfl rfl ?_
        refine s_unguard2 (b := true) rfl rfl (by with_reducible rfl) rfl rfl ?_
        refine s_q (by (first | exact y_pickT rfl rfl | exact y_pickF rfl rfl)) rfl ?_
        refine s_q (y_move rfl) rfl ?_
        refine s_unguard2 (b := true) rfl rfl (by with_reducible rfl) rfl rfl ?_
        refine s_unguard2 (b := true) rfl rfl (by with_reducible rfl) rfl rfl ?_
        refine s_unguard2 (b := true) rfl rfl (by with_reducible rfl) rfl rfl ?_
        refine s_unguard2 (b := true) rfl rfl (by with_reducible rfl) rfl rfl ?_
        refine s_unguardU rfl rfl rfl ?_
        refine s_unguardU rfl rfl rfl ?_
        refine s_unguardU rfl rfl rfl ?_
        refine s_unguard2 (b := true) rfl rfl (by with_reducible rfl) rfl rfl ?_
        refine s_q (by (first | exact y_pickT rfl rfl | exact y_pickF rfl rfl)) rfl ?_
        refine s_done ?_
        have hr' := hr true (by rw [decide_eq_true (.inr (.inr (.inr (.inr (.inl ⟨p0, z0⟩)))))])
        try dsimp only [List.cons_append, List.nil_append, List.append_nil] at hr'
        exact J.to hr' ⟨rfl, rfl, rfl, rfl, rfl, trivial⟩ tk
  rintro b4 hb4
  dsimp only [List.cons_append, List.nil_append] at hb4 ⊢
  by_cases hb : BadP m.args.length i
  · obtain rfl : b4 = true := by rw [hb4, decide_eq_true hb]
    refine s_condT2 rfl (by with_reducible rfl) ?_
    refine s_seq ?_
    refine s_region ?_
    refine s_q (y_assign rfl) rfl ?_
    refine s_done ?_
    exact s_return ⟨by rw [insE_T hb], rfl⟩ (res_tmp Try.results43 rfl)
  obtain rfl : b4 = false := by rw [hb4, decide_eq_false hb]
  rw [insE_F hb]
  refine s_condF2 rfl (by with_reducible rfl) ?_
  refine s_skip ?_
  refine s_seq ?_
  refine s_seq ?_
  refine s_region ?_
  refine s_q (by (first | exact y_fieldAddrB rfl rfl rfl rfl rfl rfl | exact y_fieldAddr rfl rfl rfl rfl rfl rfl)) rfl ?_
  refine s_q (by (first | exact y_ld rfl rfl rfl (by rfl) | exact y_ldN rfl rfl rfl (by rfl) | exact y_ldK rfl rfl rfl rfl (by assumption) (by omega) | exact y_ldI rfl rfl rfl rfl (by assumption) (by omega) (by omega))) rfl ?_
  refine s_q (by (first | exact y_fieldAddrB rfl rfl rfl rfl rfl rfl | exact y_fieldAddr rfl rfl rfl rfl rfl rfl)) rfl ?_
  refine s_q (by (first | exact y_ld rfl rfl rfl (by rfl) | exact y_ldN rfl rfl rfl (by rfl) | exact y_ldK rfl rfl rfl rfl (by assumption) (by omega) | exact y_ldI rfl rfl rfl rfl (by assumption) (by omega) (by omega))) rfl ?_
  refine s_q (y_sub rfl rfl (by omega)) rfl ?_
  refine s_call (pre := []) (rem := _) rfl rfl tk (fun w N ho hl => within_spec w N i.dst 0 (m.regs - 1) ho) rfl ?_
  rintro e L' ⟨rfl, rfl⟩
  try simp only [List.nil_append, List.cons_append, List.append_nil]
  rw [inR_in]
  cases r1 : inR m.regs i.dst with
  | false =>
    refine s_q (by (first | exact y_notT rfl | exact y_notF rfl | exact y_notp rfl | exact y_notb rfl)) rfl ?_
    refine s_q (y_move rfl) rfl ?_
    refine s_unguard2 (b := true) rfl rfl (congrArg Value.bool (by decide)) rfl rfl ?_
    refine s_unguard2 (b := true) rfl rfl (congrArg Value.bool (by decide)) rfl rfl ?_
    refine s_unguard2 (b := true) rfl rfl (congrArg Value.bool (by decide)) rfl rfl ?_
    refine s_unguard2 (b := true) rfl rfl (congrArg Value.bool (by decide)) rfl rfl ?_
    refine s_unguard2 (b := true) rfl rfl (congrArg Value.bool (by decide)) rfl rfl ?_
    refine s_unguard2 (b := true) rfl rfl (congrArg Value.bool (by decide)) rfl rfl ?_
    refine s_unguard2 (b := true) rfl rfl (congrArg Value.bool (by decide)) rfl rfl ?_
    refine s_q (by (first | exact y_pickT rfl rfl | exact y_pickF rfl rfl)) rfl ?_
    refine s_q (y_move rfl) rfl ?_
    refine s_unguard2 (b := true) rfl rfl (congrArg Value.bool (by decide)) rfl rfl ?_
    refine s_unguard2 (b := true) rfl rfl (congrArg Value.bool (by decide)) rfl rfl ?_
    refine s_unguard2 (b := true) rfl rfl (congrArg Value.bool (by decide)) rfl rfl ?_
    refine s_unguard2 (b := true) rfl rfl (congrArg Value.bool (by decide)) rfl rfl ?_
    refine s_unguard2 (b := true) rfl rfl (congrArg Value.bool (by decide)) rfl rfl ?_
    refine s_unguard2 (b := true) rfl rfl (congrArg Value.bool (by decide)) rfl rfl ?_
    refine s_unguard2 (b := true) rfl rfl (congrArg Value.bool (by decide)) rfl rfl ?_
    refine s_q (by (first | exact y_pickT rfl rfl | exact y_pickF rfl rfl)) rfl ?_
    refine s_done ?_
    refine s_condT2 rfl (by with_reducible rfl) ?_
    refine s_seq ?_
    refine s_region ?_
    refine s_q (y_assign rfl) rfl ?_
    refine s_done ?_
    exact s_return ⟨by rw [if_pos (by simp)], rfl⟩ (res_tmp Try.results43 rfl)
  | true =>
  refine s_q (by (first | exact y_notT rfl | exact y_notF rfl | exact y_notp rfl | exact y_notb rfl)) rfl ?_
  refine s_q (y_move rfl) rfl ?_
  refine s_guard2 rfl rfl (congrArg Value.bool (by decide)) ?_
  refine s_q (by (first | exact y_fieldAddrB rfl rfl rfl rfl rfl rfl | exact y_fieldAddr rfl rfl rfl rfl rfl rfl)) rfl ?_
  refine s_guard2 rfl rfl (congrArg Value.bool (by decide)) ?_
  refine s_q (by (first | exact y_ld rfl rfl rfl (by rfl) | exact y_ldN rfl rfl rfl (by rfl) | exact y_ldK rfl rfl rfl rfl (by assumption) (by omega) | exact y_ldI rfl rfl rfl rfl (by assumption) (by omega) (by omega))) rfl ?_
  refine s_guard2 rfl rfl (congrArg Value.bool (by decide)) ?_
  refine s_q (by (first | exact y_fieldAddrB rfl rfl rfl rfl rfl rfl | exact y_fieldAddr rfl rfl rfl rfl rfl rfl)) rfl ?_
  refine s_guard2 rfl rfl (congrArg Value.bool (by decide)) ?_
  refine s_q (by (first | exact y_ld rfl rfl rfl (by rfl) | exact y_ldN rfl rfl rfl (by rfl) | exact y_ldK rfl rfl rfl rfl (by assumption) (by omega) | exact y_ldI rfl rfl rfl rfl (by assumption) (by omega) (by omega))) rfl ?_
  refine s_guard2 rfl rfl (congrArg Value.bool (by decide)) ?_
  refine s_q (y_sub rfl rfl (by omega)) rfl ?_
  refine s_guard2 rfl rfl (congrArg Value.bool (by decide)) ?_
  refine s_call (pre := []) (rem := _) rfl rfl tk (fun w N ho hl => within_spec w N i.a 0 (m.regs - 1) ho) rfl ?_
  rintro e L' ⟨rfl, rfl⟩
  try simp only [List.nil_append, List.cons_append, List.append_nil]
  rw [inR_in]
  cases r2 : inR m.regs i.a with
  | false =>
    refine s_guard2 rfl rfl (congrArg Value.bool (by decide)) ?_
    refine s_q (by (first | exact y_notT rfl | exact y_notF rfl | exact y_notp rfl | exact y_notb rfl)) rfl ?_
    refine s_q (by (first | exact y_pickT rfl rfl | exact y_pickF rfl rfl)) rfl ?_
    refine s_q (y_move rfl) rfl ?_
    refine s_unguard2 (b := true) rfl rfl (congrArg Value.bool (by decide)) rfl rfl ?_
    refine s_unguard2 (b := true) rfl rfl (congrArg Value.bool (by decide)) rfl rfl ?_
    refine s_unguard2 (b := true) rfl rfl (congrArg Value.bool (by decide)) rfl rfl ?_
    refine s_unguard2 (b := true) rfl rfl (congrArg Value.bool (by decide)) rfl rfl ?_
    refine s_unguard2 (b := true) rfl rfl (congrArg Value.bool (by decide)) rfl rfl ?_
    refine s_unguard2 (b := true) rfl rfl (congrArg Value.bool (by decide)) rfl rfl ?_
    refine s_unguard2 (b := true) rfl rfl (congrArg Value.bool (by decide)) rfl rfl ?_
    refine s_q (by (first | exact y_pickT rfl rfl | exact y_pickF rfl rfl)) rfl ?_
    refine s_done ?_
    refine s_condT2 rfl (by with_reducible rfl) ?_
    refine s_seq ?_
    refine s_region ?_
    refine s_q (y_assign rfl) rfl ?_
    refine s_done ?_
    exact s_return ⟨by rw [if_pos (by simp)], rfl⟩ (res_tmp Try.results43 rfl)
  | true =>
  refine s_guard2 rfl rfl (congrArg Value.bool (by decide)) ?_
  refine s_q (by (first | exact y_notT rfl | exact y_notF rfl | exact y_notp rfl | exact y_notb rfl)) rfl ?_
  refine s_q (by (first | exact y_pickT rfl rfl | exact y_pickF rfl rfl)) rfl ?_
  refine s_q (y_move rfl) rfl ?_
  refine s_guard2 rfl rfl (congrArg Value.bool (by decide)) ?_
  refine s_q (by (first | exact y_fieldAddrB rfl rfl rfl rfl rfl rfl | exact y_fieldAddr rfl rfl rfl rfl rfl rfl)) rfl ?_
  refine s_guard2 rfl rfl (congrArg Value.bool (by decide)) ?_
  refine s_q (by (first | exact y_ld rfl rfl rfl (by rfl) | exact y_ldN rfl rfl rfl (by rfl) | exact y_ldK rfl rfl rfl rfl (by assumption) (by omega) | exact y_ldI rfl rfl rfl rfl (by assumption) (by omega) (by omega))) rfl ?_
  refine s_guard2 rfl rfl (congrArg Value.bool (by decide)) ?_
  refine s_q (by (first | exact y_fieldAddrB rfl rfl rfl rfl rfl rfl | exact y_fieldAddr rfl rfl rfl rfl rfl rfl)) rfl ?_
  refine s_guard2 rfl rfl (congrArg Value.bool (by decide)) ?_
  refine s_q (by (first | exact y_ld rfl rfl rfl (by rfl) | exact y_ldN rfl rfl rfl (by rfl) | exact y_ldK rfl rfl rfl rfl (by assumption) (by omega) | exact y_ldI rfl rfl rfl rfl (by assumption) (by omega) (by omega))) rfl ?_
  refine s_guard2 rfl rfl (congrArg Value.bool (by decide)) ?_
  refine s_q (y_sub rfl rfl (by omega)) rfl ?_
  refine s_guard2 rfl rfl (congrArg Value.bool (by decide)) ?_
  refine s_call (pre := []) (rem := _) rfl rfl tk (fun w N ho hl => within_spec w N i.b 0 (m.regs - 1) ho) rfl ?_
  rintro e L' ⟨rfl, rfl⟩
  try simp only [List.nil_append, List.cons_append, List.append_nil]
  rw [inR_in]
  cases r3 : inR m.regs i.b with
  | false =>
    refine s_guard2 rfl rfl (congrArg Value.bool (by decide)) ?_
    refine s_q (by (first | exact y_notT rfl | exact y_notF rfl | exact y_notp rfl | exact y_notb rfl)) rfl ?_
    refine s_q (by (first | exact y_pickT rfl rfl | exact y_pickF rfl rfl)) rfl ?_
    refine s_done ?_
    refine s_condT2 rfl (congrArg Value.bool (by decide)) ?_
    refine s_seq ?_
    refine s_region ?_
    refine s_q (y_assign rfl) rfl ?_
    refine s_done ?_
    exact s_return ⟨by rw [if_pos (by simp)], rfl⟩ (res_tmp Try.results43 rfl)
  | true =>
  rw [if_neg (by simp)]
  refine s_guard2 rfl rfl (congrArg Value.bool (by decide)) ?_
  refine s_q (by (first | exact y_notT rfl | exact y_notF rfl | exact y_notp rfl | exact y_notb rfl)) rfl ?_
  refine s_q (by (first | exact y_pickT rfl rfl | exact y_pickF rfl rfl)) rfl ?_
  refine s_done ?_
  refine s_condF2 rfl (congrArg Value.bool (by decide)) ?_
  refine s_skip ?_
  refine s_seq ?_
  refine s_seq ?_
  refine s_region ?_
  refine s_q (y_move rfl) rfl ?_
  refine s_call (pre := []) (rem := _) rfl rfl tk (fun w N ho hl => in_spec w N (hasS i.op) 115 ho (hS _ 0)) rfl ?_
  rintro e L' ⟨rfl, rfl⟩
  try simp only [List.nil_append, List.cons_append, List.append_nil]
  rw [inS_s]
  by_cases q1 : hasP i.op &&& 16 ≠ 0
  · rw [decide_eq_true q1]
    refine s_q (y_move rfl) rfl ?_
    refine s_guard2 rfl rfl (by with_reducible rfl) ?_
    refine s_q (by (first | exact y_fieldAddrB rfl rfl rfl rfl rfl rfl | exact y_fieldAddr rfl rfl rfl rfl rfl rfl)) rfl ?_
    refine s_guard2 rfl rfl (by with_reducible rfl) ?_
    refine s_q (by (first | exact y_ld rfl rfl rfl (by rfl) | exact y_ldN rfl rfl rfl (by rfl) | exact y_ldK rfl rfl rfl rfl (by assumption) (by omega) | exact y_ldI rfl rfl rfl rfl (by assumption) (by omega) (by omega))) rfl ?_
    refine s_guard2 rfl rfl (by with_reducible rfl) ?_
    refine s_q (y_move rfl) rfl ?_
    refine s_guard2 rfl rfl (by with_reducible rfl) ?_
    refine s_q (y_sub rfl rfl (by omega)) rfl ?_
    refine s_guard2 rfl rfl (by with_reducible rfl) ?_
    refine s_call (pre := []) (rem := _) rfl rfl tk (fun w N ho hl => within_spec w N i.imm 0 (f - 1) ho) rfl ?_
    rintro e L' ⟨rfl, rfl⟩
    try simp only [List.nil_append, List.cons_append, List.append_nil]
    by_cases q2 : 0 ≤ i.imm ∧ i.imm ≤ f - 1
    · rw [decide_eq_true q2, if_neg (fun x => x.2 (by omega))]
      refine s_guard2 rfl rfl (by with_reducible rfl) ?_
      refine s_q (by (first | exact y_notT rfl | exact y_notF rfl | exact y_notp rfl | exact y_notb rfl)) rfl ?_
      refine s_q (by (first | exact y_pickT rfl rfl | exact y_pickF rfl rfl)) rfl ?_
      refine s_done ?_
      refine s_condF2 rfl (congrArg Value.bool (by decide)) ?_
      refine s_skip ?_
      refine s_seq ?_
      refine s_region ?_
      refine s_q (y_assign rfl) rfl ?_
      refine s_done ?_
      exact s_return ⟨rfl, rfl⟩ (res_tmp Try.results43 rfl)
    · rw [decide_eq_false q2, if_pos ⟨q1, by omega⟩]
      refine s_guard2 rfl rfl (by with_reducible rfl) ?_
      refine s_q (by (first | exact y_notT rfl | exact y_notF rfl | exact y_notp rfl | exact y_notb rfl)) rfl ?_
      refine s_q (by (first | exact y_pickT rfl rfl | exact y_pickF rfl rfl)) rfl ?_
      refine s_done ?_
      refine s_condT2 rfl (congrArg Value.bool (by decide)) ?_
      refine s_seq ?_
      refine s_region ?_
      refine s_q (y_assign rfl) rfl ?_
      refine s_done ?_
      exact s_return ⟨rfl, rfl⟩ (res_tmp Try.results43 rfl)
  · rw [decide_eq_false q1, if_neg (fun x => q1 x.1)]
    refine s_q (y_move rfl) rfl ?_
    refine s_unguard2 (b := false) rfl rfl (by with_reducible rfl) rfl rfl ?_
    refine s_unguard2 (b := false) rfl rfl (by with_reducible rfl) rfl rfl ?_
    refine s_unguard2 (b := false) rfl rfl (by with_reducible rfl) rfl rfl ?_
    refine s_unguard2 (b := false) rfl rfl (by with_reducible rfl) rfl rfl ?_
    refine s_unguard2 (b := false) rfl rfl (by with_reducible rfl) rfl rfl ?_
    refine s_unguard2 (b := false) rfl rfl (by with_reducible rfl) rfl rfl ?_
    refine s_q (by (first | exact y_pickT rfl rfl | exact y_pickF rfl rfl)) rfl ?_
    refine s_done ?_
    refine s_condF2 rfl (by with_reducible rfl) ?_
    refine s_skip ?_
    refine s_seq ?_
    refine s_region ?_
    refine s_q (y_assign rfl) rfl ?_
    refine s_done ?_
    exact s_return ⟨rfl, rfl⟩ (res_tmp Try.results43 rfl)
end Go.Proofs.Ytgpebcfeeagoaaa
