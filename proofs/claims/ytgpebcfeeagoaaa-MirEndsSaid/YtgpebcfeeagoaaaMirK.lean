/- Layer 6 (mir): the chapter's example. -/
import Derived.Test.YtgpebcfeeagoaaaMirJ
import Derived.Test.YtgpebcfeeagoaaaEEb
set_option linter.unusedVariables false
set_option linter.unusedSimpArgs false
namespace Go.Proofs.Ytgpebcfeeagoaaa
open Go Go.E
set_option maxRecDepth 4000
set_option maxHeartbeats 1000000
def m2 : MV := ⟨2, [1], 0, []⟩
theorem two_spec (w : World) (N : Nat → Prop) (ho : Owns w [] N) : Ret Try.prog 30 [] w N fun v L => ∃ b, v = .agg (mval m2 (some ⟨b, 0, none⟩) 1 none 0).toArray ∧ L = [cb b 3 (ints [1])] := by
  refine ret_of_J cx Try.func30 rfl (Nat.le_of_ble_eq_true rfl) ho ?_
  refine s_seq ?_
  refine s_region ?_
  refine s_alloc rfl rfl (fun b1 => ?_)
  refine s_done ?_
  refine s_seq ?_
  refine s_region ?_
  refine s_bslice rfl rfl rfl rfl rfl rfl rfl rfl (fun b => ?_)
  change J _ _ _ (cb b 3 (ints [1]) :: _) _
  refine s_q (y_build rfl rfl rfl rfl) rfl ?_
  first | (refine s_storeW rfl rfl rfl rfl rfl (by rfl) ?_) | (refine s_storeN rfl rfl rfl rfl rfl (by rfl) ?_)
  refine s_done ?_
  exact s_return (R := fun v L => ∃ b, v = .agg (mval m2 (some ⟨b, 0, none⟩) 1 none 0).toArray ∧ L = [cb b 3 (ints [1])]) ⟨b, rfl, rfl⟩ (res_cellN Try.results30 rfl rfl rfl rfl)
def i1 : InsD := ⟨16, 0, 1, 0, 0, 0, none, 0, [], 0⟩
def i2 : InsD := ⟨17, 0, 0, 0, 0, 0, none, 0, [], 0⟩
def i3 : InsD := ⟨17, 0, 0, 0, 1, 0, none, 0, [], 0⟩
def blkB (b : Nat) : BlkD := ⟨some ⟨b, 0, none⟩, 2, [i1, i2], 4, 0, 0, 0⟩
def blkC (b : Nat) : BlkD := ⟨some ⟨b, 0, none⟩, 1, [i3], 4, 0, 0, 0⟩
theorem rB (b : Nat) : rightE m2 1 [blkB b] = 0 := by
  simp [rightE, m2, machOK, setOK, sortedB, blkB, blkE, firstE, insE, i1, i2, hasP, inR, termE]
theorem rC (b : Nat) : rightE m2 1 [blkC b] = 11 := by
  simp [rightE, m2, machOK, setOK, sortedB, blkC, blkE, firstE, insE, i3, hasP, inR, termE]
theorem okB (b : Nat) : TOK [blkB b] := by
  refine ⟨by simp, ?_, ?_, ?_⟩ <;> intro x hx <;> rw [List.mem_singleton.1 hx] <;> simp [blkB, i1, i2]
  · constructor <;> constructor <;> simp [i64]
theorem okC (b : Nat) : TOK [blkC b] := by
  refine ⟨by simp, ?_, ?_, ?_⟩ <;> intro x hx <;> rw [List.mem_singleton.1 hx] <;> simp [blkC, i3]
  · constructor <;> simp [i64]
theorem awake_spec (w : World) (N : Nat → Prop) (ho : Owns w [] N) : Ret Try.prog 8 [] w N fun v L => v = .bool true ∧ L = [] := by
  refine ret_of_J cx Try.func8 rfl (Nat.le_of_ble_eq_true rfl) ho ?_
  refine s_seq ?_
  refine s_region ?_
  refine s_q (y_assign rfl) rfl ?_
  refine s_done ?_
  refine s_seq ?_
  refine s_region ?_
  refine s_q (y_build rfl rfl rfl rfl) rfl ?_
  refine s_q (y_build rfl rfl rfl rfl) rfl ?_
  refine s_bslice rfl rfl rfl rfl rfl rfl rfl rfl (fun nb => ?_)
  change J _ _ _ (cb nb 30 ([i1, i2].flatMap encIns) :: _) _
  refine s_q (y_build rfl rfl rfl rfl) rfl ?_
  refine s_q (y_build rfl rfl rfl rfl) rfl ?_
  refine s_alloc rfl rfl (fun b1 => ?_)
  first | (refine s_storeW rfl rfl rfl rfl rfl (by rfl) ?_) | (refine s_storeN rfl rfl rfl rfl rfl (by rfl) ?_)
  change J _ _ _ (cb b1 42 (encBlk (blkB nb)) :: _) _
  refine s_done ?_
  refine s_seq ?_
  refine s_region ?_
  refine s_q (y_build rfl rfl rfl rfl) rfl ?_
  refine s_bslice rfl rfl rfl rfl rfl rfl rfl rfl (fun nc => ?_)
  change J _ _ _ (cb nc 30 ([i3].flatMap encIns) :: _) _
  refine s_q (by (first | exact y_fieldAddrB rfl rfl rfl rfl rfl rfl | exact y_fieldAddr rfl rfl rfl rfl rfl rfl)) rfl ?_
  refine s_q (by (first | exact y_ldN rfl rfl rfl (by rfl) | exact y_ld rfl rfl rfl (by rfl) | exact y_ldN rfl rfl rfl (by rfl) | exact y_ldK rfl rfl rfl rfl (by assumption) (by omega) | exact y_ldI rfl rfl rfl rfl (by assumption) (by omega) (by omega))) rfl ?_
  refine s_q (y_build rfl rfl rfl rfl) rfl ?_
  refine s_alloc rfl rfl (fun b2 => ?_)
  first | (refine s_storeW rfl rfl rfl rfl rfl (by rfl) ?_) | (refine s_storeN rfl rfl rfl rfl rfl (by rfl) ?_)
  change J _ _ _ (cb b2 42 (encBlk (blkC nc)) :: _) _
  refine s_done ?_
  refine s_seq ?_
  refine s_joinV (σ := Unit) (fun s => [(0, .bool true)]) [] (fun s => []) (fun s => True) [] trivial tk (fun k' hr => ?_) ?_
  · skip
    refine d_start ?_
    refine d_take 1 rfl (by kernel_rfl) (by (first | exact y_ldN rfl rfl rfl (by rfl) | exact y_ld rfl rfl rfl (by rfl) | exact y_ldN rfl rfl rfl (by rfl) | exact y_ldK rfl rfl rfl rfl (by assumption) (by omega) | exact y_ldI rfl rfl rfl rfl (by assumption) (by omega) (by omega))) rfl ?_
    refine d_effs [0, 2] (by kernel_rfl) rfl (all2 ?_ ?_)
    · refine ⟨_, rfl, [1], [true], rfl, (by kernel_rfl), fun K hK => ?_⟩
      refine s_call (pre := []) (rem := _) rfl rfl tk (fun w N ho hl => two_spec w N ho) rfl ?_
      rintro e L' ⟨x1, rfl, rfl⟩
      try simp only [List.nil_append, List.cons_append, List.append_nil]
      refine s_done ?_
      refine hK _ _ (by refine rm_yd rfl (by (first | exact y_ldN rfl rfl rfl (by rfl) | exact y_ld rfl rfl rfl (by rfl) | exact y_ldN rfl rfl rfl (by rfl) | exact y_ldK rfl rfl rfl rfl (by assumption) (by omega) | exact y_ldI rfl rfl rfl rfl (by assumption) (by omega) (by omega))) ?_; exact rm_nil) ?_
      clear hK K
      refine d_effM 2 [1] [false] rfl (by kernel_rfl) rfl (by kernel_rfl) (fun K hK => ?_)
      refine s_bslice rfl rfl rfl rfl rfl rfl rfl rfl (fun y1 => ?_); change J _ _ _ (cb y1 42 ([blkB nb].flatMap encBlk) :: _) _
      refine s_done ?_
      refine hK _ _ (by refine rm_skip ?_; exact rm_nil) ?_
      clear hK K
      refine d_take 3 rfl (by kernel_rfl) (by exact y_build rfl rfl rfl rfl) rfl ?_
      refine d_effM 4 [3] [false] rfl (by kernel_rfl) rfl (by kernel_rfl) (fun K hK => ?_)
      refine s_call (pre := []) (rem := _) rfl rfl tk (fun w N ho hl => Right_spec w N m2 (some ⟨x1, 0, none⟩) none (some ⟨y1, 0, none⟩) 1 0 1 1 [blkB nb] ho (kiOfC hl (by repeat (first | exact List.mem_cons_self | refine List.mem_cons_of_mem _ ?_))) (fun w hw j hj => absurd hj (Nat.not_lt_zero j)) (by decide) (by decide) ⟨keOfC (fun _ => rfl) hl (by repeat (first | exact List.mem_cons_self | refine List.mem_cons_of_mem _ ?_)), (fun b hb => by rw [List.mem_singleton.1 hb]; exact keOfC (fun _ => rfl) hl (by repeat (first | exact List.mem_cons_self | refine List.mem_cons_of_mem _ ?_))), (fun b hb i hi => by rw [List.mem_singleton.1 hb] at hi; simp only [blkB, List.mem_cons, List.not_mem_nil, or_false] at hi; (first | (rcases hi with rfl | rfl) | subst hi) <;> exact fun w hw j hj => absurd hj (Nat.not_lt_zero j))⟩ (okB nb) (by unfold i64; decide)) rfl ?_; rintro e L' ⟨rfl, rfl⟩; rw [rB]; try simp only [List.nil_append]
      refine s_done ?_
      refine hK _ _ (by refine rm_skip ?_; exact rm_nil) ?_
      clear hK K
      refine d_take 5 rfl (by kernel_rfl) (by (first | exact y_eql rfl rfl | exact y_eqlB rfl rfl rfl)) rfl ?_
      refine d_take 6 rfl (by kernel_rfl) (by exact y_move rfl) rfl ?_
      refine d_takeG 8 rfl (by kernel_rfl) rfl rfl (by (first | exact y_ldN rfl rfl rfl (by rfl) | exact y_ld rfl rfl rfl (by rfl) | exact y_ldN rfl rfl rfl (by rfl) | exact y_ldK rfl rfl rfl rfl (by assumption) (by omega) | exact y_ldI rfl rfl rfl rfl (by assumption) (by omega) (by omega))) rfl ?_
      refine d_effs [7, 9] (by kernel_rfl) rfl (all2 ?_ ?_)
      · refine ⟨_, rfl, [8, 6, 5], [true, false, true], rfl, (by kernel_rfl), fun K hK => ?_⟩
        refine s_guard rfl rfl ?_
        refine s_call (pre := []) (rem := _) rfl rfl tk (fun w N ho hl => two_spec w N ho) rfl ?_
        rintro e L' ⟨x2, rfl, rfl⟩
        try simp only [List.nil_append, List.cons_append, List.append_nil]
        refine s_done ?_
        refine hK _ _ (by refine rm_yd rfl (by (first | exact y_ldN rfl rfl rfl (by rfl) | exact y_ld rfl rfl rfl (by rfl) | exact y_ldN rfl rfl rfl (by rfl) | exact y_ldK rfl rfl rfl rfl (by assumption) (by omega) | exact y_ldI rfl rfl rfl rfl (by assumption) (by omega) (by omega))) ?_; refine rm_skip ?_; refine rm_yd rfl (by (first | exact y_eql rfl rfl | exact y_eqlB rfl rfl rfl)) ?_; exact rm_nil) ?_
        clear hK K
        refine d_effM 9 [8, 5] [false, true] rfl (by kernel_rfl) rfl (by kernel_rfl) (fun K hK => ?_)
        refine s_guard rfl rfl ?_
        refine s_bslice rfl rfl rfl rfl rfl rfl rfl rfl (fun y2 => ?_); change J _ _ _ (cb y2 42 ([blkC nc].flatMap encBlk) :: _) _
        refine s_done ?_
        refine hK _ _ (by refine rm_skip ?_; refine rm_yd rfl (by (first | exact y_eql rfl rfl | exact y_eqlB rfl rfl rfl)) ?_; exact rm_nil) ?_
        clear hK K
        refine d_takeG 10 rfl (by kernel_rfl) rfl rfl (by exact y_build rfl rfl rfl rfl) rfl ?_
        refine d_effM 11 [10, 5] [false, true] rfl (by kernel_rfl) rfl (by kernel_rfl) (fun K hK => ?_)
        refine s_guard rfl rfl ?_
        refine s_call (pre := []) (rem := _) rfl rfl tk (fun w N ho hl => Right_spec w N m2 (some ⟨x2, 0, none⟩) none (some ⟨y2, 0, none⟩) 1 0 1 1 [blkC nc] ho (kiOfC hl (by repeat (first | exact List.mem_cons_self | refine List.mem_cons_of_mem _ ?_))) (fun w hw j hj => absurd hj (Nat.not_lt_zero j)) (by decide) (by decide) ⟨keOfC (fun _ => rfl) hl (by repeat (first | exact List.mem_cons_self | refine List.mem_cons_of_mem _ ?_)), (fun b hb => by rw [List.mem_singleton.1 hb]; exact keOfC (fun _ => rfl) hl (by repeat (first | exact List.mem_cons_self | refine List.mem_cons_of_mem _ ?_))), (fun b hb i hi => by rw [List.mem_singleton.1 hb] at hi; simp only [blkC, List.mem_cons, List.not_mem_nil, or_false] at hi; (first | (rcases hi with rfl | rfl) | subst hi) <;> exact fun w hw j hj => absurd hj (Nat.not_lt_zero j))⟩ (okC nc) (by unfold i64; decide)) rfl ?_; rintro e L' ⟨rfl, rfl⟩; rw [rC]; try simp only [List.nil_append]
        refine s_done ?_
        refine hK _ _ (by refine rm_skip ?_; refine rm_yd rfl (by (first | exact y_eql rfl rfl | exact y_eqlB rfl rfl rfl)) ?_; exact rm_nil) ?_
        clear hK K
        refine d_takeG 12 rfl (by kernel_rfl) rfl rfl (by (first | exact y_eql rfl rfl | exact y_eqlB rfl rfl rfl)) rfl ?_
        refine d_take 13 rfl (by kernel_rfl) (by (first | exact y_pickT rfl rfl | exact y_pickF rfl rfl)) rfl ?_
        refine d_take 14 rfl (by kernel_rfl) (by exact y_move rfl) rfl ?_
        refine d_effM 15 [14, 13, 12, 5] [false, true, true, true] rfl (by kernel_rfl) rfl (by kernel_rfl) (fun K hK => ?_)
        refine s_guard rfl rfl ?_
        refine s_call (pre := []) (rem := _) rfl rfl tk (fun w N ho hl => Inserted_spec w N 16 ho) rfl ?_
        rintro e L' ⟨rfl, rfl⟩
        try simp only [List.nil_append, List.cons_append, List.append_nil]
        refine s_done ?_
        refine hK _ _ (by refine rm_skip ?_; refine rm_yd rfl (by (first | exact y_pickT rfl rfl | exact y_pickF rfl rfl)) ?_; refine rm_yd rfl (by (first | exact y_eql rfl rfl | exact y_eqlB rfl rfl rfl)) ?_; refine rm_yd rfl (by (first | exact y_eql rfl rfl | exact y_eqlB rfl rfl rfl)) ?_; exact rm_nil) ?_
        clear hK K
        refine d_take 16 rfl (by kernel_rfl) (by (first | exact y_pickT rfl rfl | exact y_pickF rfl rfl)) rfl ?_
        refine d_take 17 rfl (by kernel_rfl) (by exact y_assign rfl) rfl ?_
        refine d_done (by kernel_rfl) ?_
        have hr' := hr () trivial
        try dsimp only [List.cons_append, List.nil_append, List.append_nil] at hr'
        exact J.to hr' ⟨rfl, trivial⟩ tk
      · refine ⟨_, rfl, [8, 6, 5], [false, false, true], rfl, (by kernel_rfl), fun K hK => ?_⟩
        refine s_guard rfl rfl ?_
        refine s_bslice rfl rfl rfl rfl rfl rfl rfl rfl (fun y2 => ?_); change J _ _ _ (cb y2 42 ([blkC nc].flatMap encBlk) :: _) _
        refine s_done ?_
        refine hK _ _ (by refine rm_skip ?_; refine rm_skip ?_; refine rm_yd rfl (by (first | exact y_eql rfl rfl | exact y_eqlB rfl rfl rfl)) ?_; exact rm_nil) ?_
        clear hK K
        refine d_takeG 10 rfl (by kernel_rfl) rfl rfl (by exact y_build rfl rfl rfl rfl) rfl ?_
        refine d_effM 7 [10, 5] [true, true] rfl (by kernel_rfl) rfl (by kernel_rfl) (fun K hK => ?_)
        refine s_guard rfl rfl ?_
        refine s_call (pre := []) (rem := _) rfl rfl tk (fun w N ho hl => two_spec w N ho) rfl ?_
        rintro e L' ⟨x2, rfl, rfl⟩
        try simp only [List.nil_append, List.cons_append, List.append_nil]
        refine s_done ?_
        refine hK _ _ (by refine rm_yd rfl (by exact y_build rfl rfl rfl rfl) ?_; refine rm_yd rfl (by (first | exact y_eql rfl rfl | exact y_eqlB rfl rfl rfl)) ?_; exact rm_nil) ?_
        clear hK K
        refine d_effM 11 [10, 5] [false, true] rfl (by kernel_rfl) rfl (by kernel_rfl) (fun K hK => ?_)
        refine s_guard rfl rfl ?_
        refine s_call (pre := []) (rem := _) rfl rfl tk (fun w N ho hl => Right_spec w N m2 (some ⟨x2, 0, none⟩) none (some ⟨y2, 0, none⟩) 1 0 1 1 [blkC nc] ho (kiOfC hl (by repeat (first | exact List.mem_cons_self | refine List.mem_cons_of_mem _ ?_))) (fun w hw j hj => absurd hj (Nat.not_lt_zero j)) (by decide) (by decide) ⟨keOfC (fun _ => rfl) hl (by repeat (first | exact List.mem_cons_self | refine List.mem_cons_of_mem _ ?_)), (fun b hb => by rw [List.mem_singleton.1 hb]; exact keOfC (fun _ => rfl) hl (by repeat (first | exact List.mem_cons_self | refine List.mem_cons_of_mem _ ?_))), (fun b hb i hi => by rw [List.mem_singleton.1 hb] at hi; simp only [blkC, List.mem_cons, List.not_mem_nil, or_false] at hi; (first | (rcases hi with rfl | rfl) | subst hi) <;> exact fun w hw j hj => absurd hj (Nat.not_lt_zero j))⟩ (okC nc) (by unfold i64; decide)) rfl ?_; rintro e L' ⟨rfl, rfl⟩; rw [rC]; try simp only [List.nil_append]
        refine s_done ?_
        refine hK _ _ (by refine rm_skip ?_; refine rm_yd rfl (by (first | exact y_eql rfl rfl | exact y_eqlB rfl rfl rfl)) ?_; exact rm_nil) ?_
        clear hK K
        refine d_takeG 12 rfl (by kernel_rfl) rfl rfl (by (first | exact y_eql rfl rfl | exact y_eqlB rfl rfl rfl)) rfl ?_
        refine d_take 13 rfl (by kernel_rfl) (by (first | exact y_pickT rfl rfl | exact y_pickF rfl rfl)) rfl ?_
        refine d_take 14 rfl (by kernel_rfl) (by exact y_move rfl) rfl ?_
        refine d_effM 15 [14, 13, 12, 5] [false, true, true, true] rfl (by kernel_rfl) rfl (by kernel_rfl) (fun K hK => ?_)
        refine s_guard rfl rfl ?_
        refine s_call (pre := []) (rem := _) rfl rfl tk (fun w N ho hl => Inserted_spec w N 16 ho) rfl ?_
        rintro e L' ⟨rfl, rfl⟩
        try simp only [List.nil_append, List.cons_append, List.append_nil]
        refine s_done ?_
        refine hK _ _ (by refine rm_skip ?_; refine rm_yd rfl (by (first | exact y_pickT rfl rfl | exact y_pickF rfl rfl)) ?_; refine rm_yd rfl (by (first | exact y_eql rfl rfl | exact y_eqlB rfl rfl rfl)) ?_; refine rm_yd rfl (by (first | exact y_eql rfl rfl | exact y_eqlB rfl rfl rfl)) ?_; exact rm_nil) ?_
        clear hK K
        refine d_take 16 rfl (by kernel_rfl) (by (first | exact y_pickT rfl rfl | exact y_pickF rfl rfl)) rfl ?_
        refine d_take 17 rfl (by kernel_rfl) (by exact y_assign rfl) rfl ?_
        refine d_done (by kernel_rfl) ?_
        have hr' := hr () trivial
        try dsimp only [List.cons_append, List.nil_append, List.append_nil] at hr'
        exact J.to hr' ⟨rfl, trivial⟩ tk
    · refine ⟨_, rfl, [1], [false], rfl, (by kernel_rfl), fun K hK => ?_⟩
      refine s_bslice rfl rfl rfl rfl rfl rfl rfl rfl (fun y1 => ?_); change J _ _ _ (cb y1 42 ([blkB nb].flatMap encBlk) :: _) _
      refine s_done ?_
      refine hK _ _ (by refine rm_skip ?_; exact rm_nil) ?_
      clear hK K
      refine d_take 3 rfl (by kernel_rfl) (by exact y_build rfl rfl rfl rfl) rfl ?_
      refine d_effM 0 [3] [true] rfl (by kernel_rfl) rfl (by kernel_rfl) (fun K hK => ?_)
      refine s_call (pre := []) (rem := _) rfl rfl tk (fun w N ho hl => two_spec w N ho) rfl ?_
      rintro e L' ⟨x1, rfl, rfl⟩
      try simp only [List.nil_append, List.cons_append, List.append_nil]
      refine s_done ?_
      refine hK _ _ (by refine rm_yd rfl (by exact y_build rfl rfl rfl rfl) ?_; exact rm_nil) ?_
      clear hK K
      refine d_effM 4 [3] [false] rfl (by kernel_rfl) rfl (by kernel_rfl) (fun K hK => ?_)
      refine s_call (pre := []) (rem := _) rfl rfl tk (fun w N ho hl => Right_spec w N m2 (some ⟨x1, 0, none⟩) none (some ⟨y1, 0, none⟩) 1 0 1 1 [blkB nb] ho (kiOfC hl (by repeat (first | exact List.mem_cons_self | refine List.mem_cons_of_mem _ ?_))) (fun w hw j hj => absurd hj (Nat.not_lt_zero j)) (by decide) (by decide) ⟨keOfC (fun _ => rfl) hl (by repeat (first | exact List.mem_cons_self | refine List.mem_cons_of_mem _ ?_)), (fun b hb => by rw [List.mem_singleton.1 hb]; exact keOfC (fun _ => rfl) hl (by repeat (first | exact List.mem_cons_self | refine List.mem_cons_of_mem _ ?_))), (fun b hb i hi => by rw [List.mem_singleton.1 hb] at hi; simp only [blkB, List.mem_cons, List.not_mem_nil, or_false] at hi; (first | (rcases hi with rfl | rfl) | subst hi) <;> exact fun w hw j hj => absurd hj (Nat.not_lt_zero j))⟩ (okB nb) (by unfold i64; decide)) rfl ?_; rintro e L' ⟨rfl, rfl⟩; rw [rB]; try simp only [List.nil_append]
      refine s_done ?_
      refine hK _ _ (by refine rm_skip ?_; exact rm_nil) ?_
      clear hK K
      refine d_take 5 rfl (by kernel_rfl) (by (first | exact y_eql rfl rfl | exact y_eqlB rfl rfl rfl)) rfl ?_
      refine d_take 6 rfl (by kernel_rfl) (by exact y_move rfl) rfl ?_
      refine d_takeG 8 rfl (by kernel_rfl) rfl rfl (by (first | exact y_ldN rfl rfl rfl (by rfl) | exact y_ld rfl rfl rfl (by rfl) | exact y_ldN rfl rfl rfl (by rfl) | exact y_ldK rfl rfl rfl rfl (by assumption) (by omega) | exact y_ldI rfl rfl rfl rfl (by assumption) (by omega) (by omega))) rfl ?_
      refine d_effs [7, 9] (by kernel_rfl) rfl (all2 ?_ ?_)
      · refine ⟨_, rfl, [8, 6, 5], [true, false, true], rfl, (by kernel_rfl), fun K hK => ?_⟩
        refine s_guard rfl rfl ?_
        refine s_call (pre := []) (rem := _) rfl rfl tk (fun w N ho hl => two_spec w N ho) rfl ?_
        rintro e L' ⟨x2, rfl, rfl⟩
        try simp only [List.nil_append, List.cons_append, List.append_nil]
        refine s_done ?_
        refine hK _ _ (by refine rm_yd rfl (by (first | exact y_ldN rfl rfl rfl (by rfl) | exact y_ld rfl rfl rfl (by rfl) | exact y_ldN rfl rfl rfl (by rfl) | exact y_ldK rfl rfl rfl rfl (by assumption) (by omega) | exact y_ldI rfl rfl rfl rfl (by assumption) (by omega) (by omega))) ?_; refine rm_skip ?_; refine rm_yd rfl (by (first | exact y_eql rfl rfl | exact y_eqlB rfl rfl rfl)) ?_; exact rm_nil) ?_
        clear hK K
        refine d_effM 9 [8, 5] [false, true] rfl (by kernel_rfl) rfl (by kernel_rfl) (fun K hK => ?_)
        refine s_guard rfl rfl ?_
        refine s_bslice rfl rfl rfl rfl rfl rfl rfl rfl (fun y2 => ?_); change J _ _ _ (cb y2 42 ([blkC nc].flatMap encBlk) :: _) _
        refine s_done ?_
        refine hK _ _ (by refine rm_skip ?_; refine rm_yd rfl (by (first | exact y_eql rfl rfl | exact y_eqlB rfl rfl rfl)) ?_; exact rm_nil) ?_
        clear hK K
        refine d_takeG 10 rfl (by kernel_rfl) rfl rfl (by exact y_build rfl rfl rfl rfl) rfl ?_
        refine d_effM 11 [10, 5] [false, true] rfl (by kernel_rfl) rfl (by kernel_rfl) (fun K hK => ?_)
        refine s_guard rfl rfl ?_
        refine s_call (pre := []) (rem := _) rfl rfl tk (fun w N ho hl => Right_spec w N m2 (some ⟨x2, 0, none⟩) none (some ⟨y2, 0, none⟩) 1 0 1 1 [blkC nc] ho (kiOfC hl (by repeat (first | exact List.mem_cons_self | refine List.mem_cons_of_mem _ ?_))) (fun w hw j hj => absurd hj (Nat.not_lt_zero j)) (by decide) (by decide) ⟨keOfC (fun _ => rfl) hl (by repeat (first | exact List.mem_cons_self | refine List.mem_cons_of_mem _ ?_)), (fun b hb => by rw [List.mem_singleton.1 hb]; exact keOfC (fun _ => rfl) hl (by repeat (first | exact List.mem_cons_self | refine List.mem_cons_of_mem _ ?_))), (fun b hb i hi => by rw [List.mem_singleton.1 hb] at hi; simp only [blkC, List.mem_cons, List.not_mem_nil, or_false] at hi; (first | (rcases hi with rfl | rfl) | subst hi) <;> exact fun w hw j hj => absurd hj (Nat.not_lt_zero j))⟩ (okC nc) (by unfold i64; decide)) rfl ?_; rintro e L' ⟨rfl, rfl⟩; rw [rC]; try simp only [List.nil_append]
        refine s_done ?_
        refine hK _ _ (by refine rm_skip ?_; refine rm_yd rfl (by (first | exact y_eql rfl rfl | exact y_eqlB rfl rfl rfl)) ?_; exact rm_nil) ?_
        clear hK K
        refine d_takeG 12 rfl (by kernel_rfl) rfl rfl (by (first | exact y_eql rfl rfl | exact y_eqlB rfl rfl rfl)) rfl ?_
        refine d_take 13 rfl (by kernel_rfl) (by (first | exact y_pickT rfl rfl | exact y_pickF rfl rfl)) rfl ?_
        refine d_take 14 rfl (by kernel_rfl) (by exact y_move rfl) rfl ?_
        refine d_effM 15 [14, 13, 12, 5] [false, true, true, true] rfl (by kernel_rfl) rfl (by kernel_rfl) (fun K hK => ?_)
        refine s_guard rfl rfl ?_
        refine s_call (pre := []) (rem := _) rfl rfl tk (fun w N ho hl => Inserted_spec w N 16 ho) rfl ?_
        rintro e L' ⟨rfl, rfl⟩
        try simp only [List.nil_append, List.cons_append, List.append_nil]
        refine s_done ?_
        refine hK _ _ (by refine rm_skip ?_; refine rm_yd rfl (by (first | exact y_pickT rfl rfl | exact y_pickF rfl rfl)) ?_; refine rm_yd rfl (by (first | exact y_eql rfl rfl | exact y_eqlB rfl rfl rfl)) ?_; refine rm_yd rfl (by (first | exact y_eql rfl rfl | exact y_eqlB rfl rfl rfl)) ?_; exact rm_nil) ?_
        clear hK K
        refine d_take 16 rfl (by kernel_rfl) (by (first | exact y_pickT rfl rfl | exact y_pickF rfl rfl)) rfl ?_
        refine d_take 17 rfl (by kernel_rfl) (by exact y_assign rfl) rfl ?_
        refine d_done (by kernel_rfl) ?_
        have hr' := hr () trivial
        try dsimp only [List.cons_append, List.nil_append, List.append_nil] at hr'
        exact J.to hr' ⟨rfl, trivial⟩ tk
      · refine ⟨_, rfl, [8, 6, 5], [false, false, true], rfl, (by kernel_rfl), fun K hK => ?_⟩
        refine s_guard rfl rfl ?_
        refine s_bslice rfl rfl rfl rfl rfl rfl rfl rfl (fun y2 => ?_); change J _ _ _ (cb y2 42 ([blkC nc].flatMap encBlk) :: _) _
        refine s_done ?_
        refine hK _ _ (by refine rm_skip ?_; refine rm_skip ?_; refine rm_yd rfl (by (first | exact y_eql rfl rfl | exact y_eqlB rfl rfl rfl)) ?_; exact rm_nil) ?_
        clear hK K
        refine d_takeG 10 rfl (by kernel_rfl) rfl rfl (by exact y_build rfl rfl rfl rfl) rfl ?_
        refine d_effM 7 [10, 5] [true, true] rfl (by kernel_rfl) rfl (by kernel_rfl) (fun K hK => ?_)
        refine s_guard rfl rfl ?_
        refine s_call (pre := []) (rem := _) rfl rfl tk (fun w N ho hl => two_spec w N ho) rfl ?_
        rintro e L' ⟨x2, rfl, rfl⟩
        try simp only [List.nil_append, List.cons_append, List.append_nil]
        refine s_done ?_
        refine hK _ _ (by refine rm_yd rfl (by exact y_build rfl rfl rfl rfl) ?_; refine rm_yd rfl (by (first | exact y_eql rfl rfl | exact y_eqlB rfl rfl rfl)) ?_; exact rm_nil) ?_
        clear hK K
        refine d_effM 11 [10, 5] [false, true] rfl (by kernel_rfl) rfl (by kernel_rfl) (fun K hK => ?_)
        refine s_guard rfl rfl ?_
        refine s_call (pre := []) (rem := _) rfl rfl tk (fun w N ho hl => Right_spec w N m2 (some ⟨x2, 0, none⟩) none (some ⟨y2, 0, none⟩) 1 0 1 1 [blkC nc] ho (kiOfC hl (by repeat (first | exact List.mem_cons_self | refine List.mem_cons_of_mem _ ?_))) (fun w hw j hj => absurd hj (Nat.not_lt_zero j)) (by decide) (by decide) ⟨keOfC (fun _ => rfl) hl (by repeat (first | exact List.mem_cons_self | refine List.mem_cons_of_mem _ ?_)), (fun b hb => by rw [List.mem_singleton.1 hb]; exact keOfC (fun _ => rfl) hl (by repeat (first | exact List.mem_cons_self | refine List.mem_cons_of_mem _ ?_))), (fun b hb i hi => by rw [List.mem_singleton.1 hb] at hi; simp only [blkC, List.mem_cons, List.not_mem_nil, or_false] at hi; (first | (rcases hi with rfl | rfl) | subst hi) <;> exact fun w hw j hj => absurd hj (Nat.not_lt_zero j))⟩ (okC nc) (by unfold i64; decide)) rfl ?_; rintro e L' ⟨rfl, rfl⟩; rw [rC]; try simp only [List.nil_append]
        refine s_done ?_
        refine hK _ _ (by refine rm_skip ?_; refine rm_yd rfl (by (first | exact y_eql rfl rfl | exact y_eqlB rfl rfl rfl)) ?_; exact rm_nil) ?_
        clear hK K
        refine d_takeG 12 rfl (by kernel_rfl) rfl rfl (by (first | exact y_eql rfl rfl | exact y_eqlB rfl rfl rfl)) rfl ?_
        refine d_take 13 rfl (by kernel_rfl) (by (first | exact y_pickT rfl rfl | exact y_pickF rfl rfl)) rfl ?_
        refine d_take 14 rfl (by kernel_rfl) (by exact y_move rfl) rfl ?_
        refine d_effM 15 [14, 13, 12, 5] [false, true, true, true] rfl (by kernel_rfl) rfl (by kernel_rfl) (fun K hK => ?_)
        refine s_guard rfl rfl ?_
        refine s_call (pre := []) (rem := _) rfl rfl tk (fun w N ho hl => Inserted_spec w N 16 ho) rfl ?_
        rintro e L' ⟨rfl, rfl⟩
        try simp only [List.nil_append, List.cons_append, List.append_nil]
        refine s_done ?_
        refine hK _ _ (by refine rm_skip ?_; refine rm_yd rfl (by (first | exact y_pickT rfl rfl | exact y_pickF rfl rfl)) ?_; refine rm_yd rfl (by (first | exact y_eql rfl rfl | exact y_eqlB rfl rfl rfl)) ?_; refine rm_yd rfl (by (first | exact y_eql rfl rfl | exact y_eqlB rfl rfl rfl)) ?_; exact rm_nil) ?_
        clear hK K
        refine d_take 16 rfl (by kernel_rfl) (by (first | exact y_pickT rfl rfl | exact y_pickF rfl rfl)) rfl ?_
        refine d_take 17 rfl (by kernel_rfl) (by exact y_assign rfl) rfl ?_
        refine d_done (by kernel_rfl) ?_
        have hr' := hr () trivial
        try dsimp only [List.cons_append, List.nil_append, List.append_nil] at hr'
        exact J.to hr' ⟨rfl, trivial⟩ tk
  rintro - -
  dsimp only [List.cons_append, List.nil_append]
  exact s_return ⟨rfl, rfl⟩ (res_tmp Try.results8 rfl)
end Go.Proofs.Ytgpebcfeeagoaaa
