/- Layer 6 (mir): the walk through MirPlaces. -/
import Derived.Test.YtgpebcfeeagoaaaMirM
import Derived.Test.YtgpebcfeeagoaaaMirK
import Derived.Test.YtgpebcfeeagoaaaE20
set_option linter.unusedVariables false
set_option linter.unusedSimpArgs false
namespace Go.Proofs.Ytgpebcfeeagoaaa
open Go Go.E
set_option maxRecDepth 4000
set_option maxHeartbeats 1000000
theorem MirPlaces_spec (w : World) (N : Nat → Prop) (m : MV) (A B T : Option Addr) (c d q : Nat) (f : Int) (bs : List BlkD) (ho : Owns w [] N) (ha : KI w N A m.args) (hs : KI w N B m.saved) (hla : m.args.length < 100000000000000) (hls : m.saved.length < 100000000000000) (hcap : m.args.length ≤ c) (hb : KB w N T bs) (ht : TOK bs) (hf : i64 f) :
    Ret Try.prog 7 [.agg (mval m A c B d).toArray, .agg #[.int .i64 f, .slice T bs.length q]] w N fun v L => v = .bool true ∧ L = [] := by
  have hlen := ht.len
  refine ret_of_J cx Try.func7 rfl (Nat.le_of_ble_eq_true rfl) ho ?_
  refine s_seq ?_
  refine s_region ?_
  first | (refine s_box1 rfl rfl rfl (fun b4 => ?_)) | (refine s_boxA rfl rfl (fun b4 => ?_))
  first | (refine s_box1 rfl rfl rfl (fun b5 => ?_)) | (refine s_boxA rfl rfl (fun b5 => ?_))
  change J _ _ _ (cb b5 27 [.int .i64 f, .slice T bs.length q] :: cb b4 24 (mval m A c B d) :: _) _
  refine s_q (y_assign rfl) rfl ?_
  refine s_done ?_
  refine s_seq ?_
  refine s_seq ?_
  refine s_region ?_
  refine s_call (pre := []) (rem := _) rfl rfl tk (fun w N ho hl => awake_spec w N ho) rfl ?_
  rintro e L' ⟨rfl, rfl⟩
  try simp only [List.nil_append, List.cons_append, List.append_nil]
  refine s_q (by (first | exact y_notT rfl | exact y_notF rfl | exact y_notp rfl | exact y_notb rfl)) rfl ?_
  refine s_done ?_
  refine s_condF2 rfl (by with_reducible rfl) ?_
  refine s_skip ?_
  refine s_seq ?_
  refine s_seq ?_
  by_cases e1 : (1500 : Int) < cntB bs 0 + ((m.args.length : Int) + m.saved.length)
  · skip
    refine d_start ?_
    refine d_take 0 rfl (by kernel_rfl) (by (first | exact y_ldN rfl rfl rfl (by rfl) | exact y_ld rfl rfl rfl (by rfl) | exact y_ldN rfl rfl rfl (by rfl) | exact y_ldK rfl rfl rfl rfl (by assumption) (by omega) | exact y_ldI rfl rfl rfl rfl (by assumption) (by omega) (by omega))) rfl ?_
    refine d_take 2 rfl (by kernel_rfl) (by (first | exact y_ldN rfl rfl rfl (by rfl) | exact y_ld rfl rfl rfl (by rfl) | exact y_ldN rfl rfl rfl (by rfl) | exact y_ldK rfl rfl rfl rfl (by assumption) (by omega) | exact y_ldI rfl rfl rfl rfl (by assumption) (by omega) (by omega))) rfl ?_
    refine d_effM 1 [2, 0] [true, false] rfl (by kernel_rfl) rfl (by kernel_rfl) (fun K hK => ?_)
    refine s_call (pre := []) (rem := _) rfl rfl tk (fun w N ho hl => TargetOf_spec w N T q f bs ho (hb.of hl) ht) rfl ?_
    rintro e L' ⟨h0, hn, hc, rfl, rfl⟩
    try simp only [List.nil_append, List.cons_append, List.append_nil]
    refine s_done ?_
    refine hK _ _ (by refine rm_yd rfl (by (first | exact y_ldN rfl rfl rfl (by rfl) | exact y_ld rfl rfl rfl (by rfl) | exact y_ldN rfl rfl rfl (by rfl) | exact y_ldK rfl rfl rfl rfl (by assumption) (by omega) | exact y_ldI rfl rfl rfl rfl (by assumption) (by omega) (by omega))) ?_; refine rm_skip ?_; exact rm_nil) ?_
    clear hK K
    refine d_effM 3 [2] [false] rfl (by kernel_rfl) rfl (by kernel_rfl) (fun K hK => ?_)
    refine s_call (pre := []) (rem := _) rfl rfl tk (fun w N ho hl => MachineOf_spec w N A B c d m ho hla hls) rfl ?_
    rintro e L' ⟨rfl, rfl⟩
    try simp only [List.nil_append, List.cons_append, List.append_nil]
    refine s_done ?_
    refine hK _ _ (by refine rm_skip ?_; exact rm_nil) ?_
    clear hK K
    refine d_take 4 rfl (by kernel_rfl) (by exact y_add rfl rfl (by omega)) rfl ?_
    refine d_take 5 rfl (by kernel_rfl) (by (first | exact y_as (y_gtr rfl rfl) (congrArg Value.bool (decide_eq_true e1)) | exact y_gtr rfl rfl)) rfl ?_
    refine d_take 6 rfl (by kernel_rfl) (by exact y_move rfl) rfl ?_
    refine d_skip 7 rfl (by kernel_rfl) (fun c e => by cases e) rfl rfl rfl rfl ?_
    refine d_skip 8 rfl (by kernel_rfl) (fun c e => by cases e) rfl rfl rfl rfl ?_
    refine d_skip 9 rfl (by kernel_rfl) (fun c e => by cases e) rfl rfl rfl rfl ?_
    refine d_skip 10 rfl (by kernel_rfl) (fun c e => by cases e) rfl rfl rfl rfl ?_
    refine d_take 11 rfl (by kernel_rfl) (by (first | exact y_pickT rfl rfl | exact y_pickF rfl rfl)) rfl ?_
    refine d_done (by kernel_rfl) ?_
    refine s_condT2 rfl (by with_reducible rfl) ?_
    refine s_seq ?_
    refine s_region ?_
    refine s_q (y_assign rfl) rfl ?_
    refine s_done ?_
    exact s_return ⟨rfl, rfl⟩ (res_tmp Try.results7 rfl)
  by_cases hR : rightE m f bs = 0
  rotate_left
  · skip
    refine d_start ?_
    refine d_take 0 rfl (by kernel_rfl) (by (first | exact y_ldN rfl rfl rfl (by rfl) | exact y_ld rfl rfl rfl (by rfl) | exact y_ldN rfl rfl rfl (by rfl) | exact y_ldK rfl rfl rfl rfl (by assumption) (by omega) | exact y_ldI rfl rfl rfl rfl (by assumption) (by omega) (by omega))) rfl ?_
    refine d_take 2 rfl (by kernel_rfl) (by (first | exact y_ldN rfl rfl rfl (by rfl) | exact y_ld rfl rfl rfl (by rfl) | exact y_ldN rfl rfl rfl (by rfl) | exact y_ldK rfl rfl rfl rfl (by assumption) (by omega) | exact y_ldI rfl rfl rfl rfl (by assumption) (by omega) (by omega))) rfl ?_
    refine d_effM 1 [2, 0] [true, false] rfl (by kernel_rfl) rfl (by kernel_rfl) (fun K hK => ?_)
    refine s_call (pre := []) (rem := _) rfl rfl tk (fun w N ho hl => TargetOf_spec w N T q f bs ho (hb.of hl) ht) rfl ?_
    rintro e L' ⟨h0, hn, hc, rfl, rfl⟩
    try simp only [List.nil_append, List.cons_append, List.append_nil]
    refine s_done ?_
    refine hK _ _ (by refine rm_yd rfl (by (first | exact y_ldN rfl rfl rfl (by rfl) | exact y_ld rfl rfl rfl (by rfl) | exact y_ldN rfl rfl rfl (by rfl) | exact y_ldK rfl rfl rfl rfl (by assumption) (by omega) | exact y_ldI rfl rfl rfl rfl (by assumption) (by omega) (by omega))) ?_; refine rm_skip ?_; exact rm_nil) ?_
    clear hK K
    refine d_effM 3 [2] [false] rfl (by kernel_rfl) rfl (by kernel_rfl) (fun K hK => ?_)
    refine s_call (pre := []) (rem := _) rfl rfl tk (fun w N ho hl => MachineOf_spec w N A B c d m ho hla hls) rfl ?_
    rintro e L' ⟨rfl, rfl⟩
    try simp only [List.nil_append, List.cons_append, List.append_nil]
    refine s_done ?_
    refine hK _ _ (by refine rm_skip ?_; exact rm_nil) ?_
    clear hK K
    refine d_take 4 rfl (by kernel_rfl) (by exact y_add rfl rfl (by omega)) rfl ?_
    refine d_take 5 rfl (by kernel_rfl) (by (first | exact y_as (y_gtr rfl rfl) (congrArg Value.bool (decide_eq_false e1)) | exact y_gtr rfl rfl)) rfl ?_
    refine d_take 6 rfl (by kernel_rfl) (by exact y_move rfl) rfl ?_
    refine d_takeG 7 rfl (by kernel_rfl) rfl rfl (by (first | exact y_ldN rfl rfl rfl (by rfl) | exact y_ld rfl rfl rfl (by rfl) | exact y_ldN rfl rfl rfl (by rfl) | exact y_ldK rfl rfl rfl rfl (by assumption) (by omega) | exact y_ldI rfl rfl rfl rfl (by assumption) (by omega) (by omega))) rfl ?_
    refine d_takeG 8 rfl (by kernel_rfl) rfl rfl (by (first | exact y_ldN rfl rfl rfl (by rfl) | exact y_ld rfl rfl rfl (by rfl) | exact y_ldN rfl rfl rfl (by rfl) | exact y_ldK rfl rfl rfl rfl (by assumption) (by omega) | exact y_ldI rfl rfl rfl rfl (by assumption) (by omega) (by omega))) rfl ?_
    refine d_effM 9 [8, 7, 6, 5, 4] [false, false, false, true, true] rfl (by kernel_rfl) rfl (by kernel_rfl) (fun K hK => ?_)
    refine s_guard rfl rfl ?_
    refine s_call (pre := []) (rem := _) rfl rfl tk (fun w N ho hl => Right_spec w N m A B T c d q f bs ho (ha.of hl) (hs.of hl) hla hls (hb.of hl) ht hf) rfl ?_
    rintro e L' ⟨rfl, rfl⟩
    try simp only [List.nil_append, List.cons_append, List.append_nil]
    refine s_done ?_
    refine hK _ _ (by refine rm_skip ?_; refine rm_skip ?_; refine rm_skip ?_; refine rm_yd rfl (by (first | exact y_as (y_gtr rfl rfl) (congrArg Value.bool (decide_eq_false e1)) | exact y_gtr rfl rfl)) ?_; refine rm_yd rfl (by exact y_add rfl rfl (by omega)) ?_; exact rm_nil) ?_
    clear hK K
    refine d_takeG 10 rfl (by kernel_rfl) rfl rfl (by (first | exact y_as (y_neq rfl rfl) (congrArg Value.bool (decide_eq_true hR)) | exact y_neq rfl rfl | exact y_neqB rfl rfl rfl)) rfl ?_
    refine d_take 11 rfl (by kernel_rfl) (by (first | exact y_pickT rfl rfl | exact y_pickF rfl rfl)) rfl ?_
    refine d_done (by kernel_rfl) ?_
    refine s_condT2 rfl (by with_reducible rfl) ?_
    refine s_seq ?_
    refine s_region ?_
    refine s_q (y_assign rfl) rfl ?_
    refine s_done ?_
    exact s_return ⟨rfl, rfl⟩ (res_tmp Try.results7 rfl)
  refine d_start ?_
  refine d_take 0 rfl (by kernel_rfl) (by (first | exact y_ldN rfl rfl rfl (by rfl) | exact y_ld rfl rfl rfl (by rfl) | exact y_ldN rfl rfl rfl (by rfl) | exact y_ldK rfl rfl rfl rfl (by assumption) (by omega) | exact y_ldI rfl rfl rfl rfl (by assumption) (by omega) (by omega))) rfl ?_
  refine d_take 2 rfl (by kernel_rfl) (by (first | exact y_ldN rfl rfl rfl (by rfl) | exact y_ld rfl rfl rfl (by rfl) | exact y_ldN rfl rfl rfl (by rfl) | exact y_ldK rfl rfl rfl rfl (by assumption) (by omega) | exact y_ldI rfl rfl rfl rfl (by assumption) (by omega) (by omega))) rfl ?_
  refine d_effM 1 [2, 0] [true, false] rfl (by kernel_rfl) rfl (by kernel_rfl) (fun K hK => ?_)
  refine s_call (pre := []) (rem := _) rfl rfl tk (fun w N ho hl => TargetOf_spec w N T q f bs ho (hb.of hl) ht) rfl ?_
  rintro e L' ⟨h0, hn, hc, rfl, rfl⟩
  try simp only [List.nil_append, List.cons_append, List.append_nil]
  refine s_done ?_
  refine hK _ _ (by refine rm_yd rfl (by (first | exact y_ldN rfl rfl rfl (by rfl) | exact y_ld rfl rfl rfl (by rfl) | exact y_ldN rfl rfl rfl (by rfl) | exact y_ldK rfl rfl rfl rfl (by assumption) (by omega) | exact y_ldI rfl rfl rfl rfl (by assumption) (by omega) (by omega))) ?_; refine rm_skip ?_; exact rm_nil) ?_
  clear hK K
  refine d_effM 3 [2] [false] rfl (by kernel_rfl) rfl (by kernel_rfl) (fun K hK => ?_)
  refine s_call (pre := []) (rem := _) rfl rfl tk (fun w N ho hl => MachineOf_spec w N A B c d m ho hla hls) rfl ?_
  rintro e L' ⟨rfl, rfl⟩
  try simp only [List.nil_append, List.cons_append, List.append_nil]
  refine s_done ?_
  refine hK _ _ (by refine rm_skip ?_; exact rm_nil) ?_
  clear hK K
  refine d_take 4 rfl (by kernel_rfl) (by exact y_add rfl rfl (by omega)) rfl ?_
  refine d_take 5 rfl (by kernel_rfl) (by (first | exact y_as (y_gtr rfl rfl) (congrArg Value.bool (decide_eq_false e1)) | exact y_gtr rfl rfl)) rfl ?_
  refine d_take 6 rfl (by kernel_rfl) (by exact y_move rfl) rfl ?_
  refine d_takeG 7 rfl (by kernel_rfl) rfl rfl (by (first | exact y_ldN rfl rfl rfl (by rfl) | exact y_ld rfl rfl rfl (by rfl) | exact y_ldN rfl rfl rfl (by rfl) | exact y_ldK rfl rfl rfl rfl (by assumption) (by omega) | exact y_ldI rfl rfl rfl rfl (by assumption) (by omega) (by omega))) rfl ?_
  refine d_takeG 8 rfl (by kernel_rfl) rfl rfl (by (first | exact y_ldN rfl rfl rfl (by rfl) | exact y_ld rfl rfl rfl (by rfl) | exact y_ldN rfl rfl rfl (by rfl) | exact y_ldK rfl rfl rfl rfl (by assumption) (by omega) | exact y_ldI rfl rfl rfl rfl (by assumption) (by omega) (by omega))) rfl ?_
  refine d_effM 9 [8, 7, 6, 5, 4] [false, false, false, true, true] rfl (by kernel_rfl) rfl (by kernel_rfl) (fun K hK => ?_)
  refine s_guard rfl rfl ?_
  refine s_call (pre := []) (rem := _) rfl rfl tk (fun w N ho hl => Right_spec w N m A B T c d q f bs ho (ha.of hl) (hs.of hl) hla hls (hb.of hl) ht hf) rfl ?_
  rintro e L' ⟨rfl, rfl⟩
  try simp only [List.nil_append, List.cons_append, List.append_nil]
  refine s_done ?_
  refine hK _ _ (by refine rm_skip ?_; refine rm_skip ?_; refine rm_skip ?_; refine rm_yd rfl (by (first | exact y_as (y_gtr rfl rfl) (congrArg Value.bool (decide_eq_false e1)) | exact y_gtr rfl rfl)) ?_; refine rm_yd rfl (by exact y_add rfl rfl (by omega)) ?_; exact rm_nil) ?_
  clear hK K
  refine d_takeG 10 rfl (by kernel_rfl) rfl rfl (by (first | exact y_as (y_neq rfl rfl) (congrArg Value.bool (decide_eq_false (fun h => h hR))) | exact y_neq rfl rfl | exact y_neqB rfl rfl rfl)) rfl ?_
  refine d_take 11 rfl (by kernel_rfl) (by (first | exact y_pickT rfl rfl | exact y_pickF rfl rfl)) rfl ?_
  refine d_done (by kernel_rfl) ?_
  obtain ⟨r1, r2, r3, r4, r5, r6, r7⟩ := rightE_zero.1 hR
  obtain ⟨s1, s2⟩ := machOK_sets r1
  have hsum := sumI_le r6
  have hsz : sizeT bs ≤ 1000000 := by unfold sizeT; omega
  refine s_condF2 rfl (by with_reducible rfl) ?_
  refine s_skip ?_
  refine s_seq ?_
  refine s_region ?_
  refine s_q (y_assign rfl) rfl ?_
  refine s_done ?_
  refine s_seq ?_
  refine s_seq ?_
  refine s_region ?_
  refine s_q (y_assign rfl) rfl ?_
  refine s_done ?_
  refine s_block ?_
  refine s_loopV (σ := Nat × Nat) (fun s => [(6, .int .i64 s.1), (5, .int .i64 s.2)]) (fun s => []) (fun s => (s.1 ≤ bs.length) ∧ (s.2 + (bs.length - s.1) + sumI (bs.drop s.1) = sizeT bs)) (fun s => bs.length - s.1) (0, 0) [(2, _), (3, _)] ⟨rfl, rfl, trivial⟩ ⟨rfl, rfl, trivial⟩ tk ⟨Nat.zero_le _, by dsimp only; rw [List.drop_zero, sizeT]; omega⟩ ?_
  rintro ⟨k, n⟩ ⟨hk, hf1⟩
  try dsimp only [List.cons_append, List.nil_append, List.append_nil] at hk hf1 ⊢
  refine s_seq ?_
  refine s_seq ?_
  refine s_region ?_
  refine s_q (y_move rfl) rfl ?_
  refine s_q (by (first | exact y_fieldAddrB rfl rfl rfl rfl rfl rfl | exact y_fieldAddr rfl rfl rfl rfl rfl rfl)) rfl ?_
  refine s_q (by (first | exact y_ld rfl rfl rfl (by rfl) | exact y_ldN rfl rfl rfl (by rfl) | exact y_ldK rfl rfl rfl rfl (by assumption) (by omega) | exact y_ldI rfl rfl rfl rfl (by assumption) (by omega) (by omega))) rfl ?_
  refine s_q (y_lenS rfl rfl rfl) rfl ?_
  refine s_q (y_lss rfl rfl) rfl ?_
  refine s_done ?_
  refine s_cond rfl (fun hc1 => ?_) (fun hc1 => ?_)
  · have hkl : k < bs.length := by omega
    have hmem := getD_mem BlkD.no hkl
    rw [drop_D .no bs k hkl, sumI] at hf1
    obtain ⟨b, hbk⟩ : ∃ b, bs.getD k .no = b := ⟨_, rfl⟩
    have hld : (encBlk (bs.getD k .no)) = encBlk b := by rw [hbk]
    refine s_skip ?_
    refine s_seq ?_
    refine s_block ?_
    refine s_seq ?_
    refine s_region ?_
    refine s_q (by (first | exact y_fieldAddrB rfl rfl rfl rfl rfl rfl | exact y_fieldAddr rfl rfl rfl rfl rfl rfl)) rfl ?_
    refine s_q (by (first | exact y_ldE hb.blk rfl rfl rfl (by omega) rfl | exact y_ld rfl rfl rfl (by rfl) | exact y_ldN rfl rfl rfl (by rfl) | exact y_ldK rfl rfl rfl rfl (by assumption) (by omega) | exact y_ldI rfl rfl rfl rfl (by assumption) (by omega) (by omega))) rfl ?_
    refine s_q (y_move rfl) rfl ?_
    refine s_q (by (first | exact y_ixE hb.blk rfl rfl rfl rfl rfl rfl (by omega) (by omega) | exact y_ixI rfl rfl rfl rfl rfl (by assumption) rfl (by omega) (by omega))) rfl ?_
    refine s_q (by (first | exact y_ldE hb.blk rfl rfl rfl (by omega) rfl | exact y_ld rfl rfl rfl (by rfl) | exact y_ldN rfl rfl rfl (by rfl) | exact y_ldK rfl rfl rfl rfl (by assumption) (by omega) | exact y_ldI rfl rfl rfl rfl (by assumption) (by omega) (by omega))) rfl ?_
    refine s_alloc rfl rfl (fun b6 => ?_)
    first | (refine s_storeW rfl rfl rfl rfl rfl (by rfl) ?_) | (refine s_storeN rfl rfl rfl rfl rfl (by rfl) ?_)
    rw [hbk] at hmem hf1
    change J _ _ _ (cb b6 42 (encBlk (bs.getD k .no)) :: _) _
    rw [hbk]
    have hin := hb.ins b hmem
    have h4k := r6 b hmem
    obtain ⟨z1, z2⟩ := blkE_zero.1 (r7 b hmem)
    unfold encBlk
    refine s_done ?_
    refine s_seq ?_
    refine s_seq ?_
    refine s_region ?_
    refine s_q (y_assign rfl) rfl ?_
    refine s_done ?_
    refine s_block ?_
    refine s_loopV (σ := Nat × Nat) (fun s => [(8, .int .i64 s.1), (5, .int .i64 s.2)]) (fun s => []) (fun s => (s.1 ≤ b.ins.length) ∧ (s.2 + (b.ins.length - s.1) + 1 + (bs.length - (k + 1)) + sumI (bs.drop (k + 1)) = sizeT bs)) (fun s => b.ins.length - s.1) (0, n) [(2, _), (3, _), (6, _), (7, _)] ⟨rfl, rfl, rfl, rfl, trivial⟩ ⟨rfl, rfl, trivial⟩ tk ⟨Nat.zero_le _, by dsimp only; omega⟩ ?_
    rintro ⟨i, n⟩ ⟨hi, hf2⟩
    try dsimp only [List.cons_append, List.nil_append, List.append_nil] at hi hf2 ⊢
    refine s_seq ?_
    refine s_seq ?_
    refine s_region ?_
    refine s_q (y_move rfl) rfl ?_
    refine s_q (by (first | exact y_fieldAddrB rfl rfl rfl rfl rfl rfl | exact y_fieldAddr rfl rfl rfl rfl rfl rfl)) rfl ?_
    refine s_q (by (first | exact y_ld rfl rfl rfl (by rfl) | exact y_ldN rfl rfl rfl (by rfl) | exact y_ldK rfl rfl rfl rfl (by assumption) (by omega) | exact y_ldI rfl rfl rfl rfl (by assumption) (by omega) (by omega))) rfl ?_
    refine s_q (y_lenS rfl rfl rfl) rfl ?_
    refine s_q (y_lss rfl rfl) rfl ?_
    refine s_done ?_
    refine s_cond rfl (fun hc2 => ?_) (fun hc2 => ?_)
    · have hil : i < b.ins.length := by omega
      obtain ⟨x, hx⟩ : ∃ x, b.ins.getD i .no = x := ⟨_, rfl⟩
      have hxm := getD_mem InsD.no hil
      rw [hx] at hxm
      have hz := z1 x hxm
      have ra := reads_all s1 hz
      obtain ⟨wa, w1⟩ := writes_all s2 hz
      have hop := op_copy hz
      have hrl : (readsL m.args x).length < 100000000000000 := by have := reads_len m.args x; omega
      have hw1 : ¬ (1 : Int) < ((writesL m.ret x).length : Int) := by omega
      refine s_skip ?_
      refine s_seq ?_
      refine s_block ?_
      refine s_seq ?_
      refine d_start ?_
      refine d_take 0 rfl (by kernel_rfl) (by (first | exact y_ldN rfl rfl rfl (by rfl) | exact y_as (y_ldE hin rfl rfl rfl hil rfl) (congrArg (fun z => Value.agg (encIns z).toArray) hx) | exact y_ld rfl rfl rfl (by rfl) | exact y_ldN rfl rfl rfl (by rfl) | exact y_ldK rfl rfl rfl rfl (by assumption) (by omega) | exact y_ldI rfl rfl rfl rfl (by assumption) (by omega) (by omega))) rfl ?_
      refine d_take 1 rfl (by kernel_rfl) (by (first | exact y_fieldAddrB rfl rfl rfl rfl rfl rfl | exact y_fieldAddr rfl rfl rfl rfl rfl rfl)) rfl ?_
      refine d_take 2 rfl (by kernel_rfl) (by (first | exact y_ldN rfl rfl rfl (by rfl) | exact y_as (y_ldE hin rfl rfl rfl hil rfl) (congrArg (fun z => Value.agg (encIns z).toArray) hx) | exact y_ld rfl rfl rfl (by rfl) | exact y_ldN rfl rfl rfl (by rfl) | exact y_ldK rfl rfl rfl rfl (by assumption) (by omega) | exact y_ldI rfl rfl rfl rfl (by assumption) (by omega) (by omega))) rfl ?_
      refine d_take 3 rfl (by kernel_rfl) (by exact y_move rfl) rfl ?_
      refine d_take 4 rfl (by kernel_rfl) (by (first | exact y_ixE hin rfl rfl rfl rfl rfl rfl (by omega) (by omega) | exact y_ixI rfl rfl rfl rfl rfl (by assumption) rfl (by omega) (by omega))) rfl ?_
      refine d_take 5 rfl (by kernel_rfl) (by (first | exact y_ldN rfl rfl rfl (by rfl) | exact y_as (y_ldE hin rfl rfl rfl hil rfl) (congrArg (fun z => Value.agg (encIns z).toArray) hx) | exact y_ld rfl rfl rfl (by rfl) | exact y_ldN rfl rfl rfl (by rfl) | exact y_ldK rfl rfl rfl rfl (by assumption) (by omega) | exact y_ldI rfl rfl rfl rfl (by assumption) (by omega) (by omega))) rfl ?_
      refine d_take 7 rfl (by kernel_rfl) (by (first | exact y_ldN rfl rfl rfl (by rfl) | exact y_as (y_ldE hin rfl rfl rfl hil rfl) (congrArg (fun z => Value.agg (encIns z).toArray) hx) | exact y_ld rfl rfl rfl (by rfl) | exact y_ldN rfl rfl rfl (by rfl) | exact y_ldK rfl rfl rfl rfl (by assumption) (by omega) | exact y_ldI rfl rfl rfl rfl (by assumption) (by omega) (by omega))) rfl ?_
      refine d_take 8 rfl (by kernel_rfl) (by (first | exact y_fieldAddrB rfl rfl rfl rfl rfl rfl | exact y_fieldAddr rfl rfl rfl rfl rfl rfl)) rfl ?_
      refine d_take 9 rfl (by kernel_rfl) (by (first | exact y_ldN rfl rfl rfl (by rfl) | exact y_as (y_ldE hin rfl rfl rfl hil rfl) (congrArg (fun z => Value.agg (encIns z).toArray) hx) | exact y_ld rfl rfl rfl (by rfl) | exact y_ldN rfl rfl rfl (by rfl) | exact y_ldK rfl rfl rfl rfl (by assumption) (by omega) | exact y_ldI rfl rfl rfl rfl (by assumption) (by omega) (by omega))) rfl ?_
      refine d_take 10 rfl (by kernel_rfl) (by exact y_move rfl) rfl ?_
      refine d_take 11 rfl (by kernel_rfl) (by (first | exact y_ixE hin rfl rfl rfl rfl rfl rfl (by omega) (by omega) | exact y_ixI rfl rfl rfl rfl rfl (by assumption) rfl (by omega) (by omega))) rfl ?_
      refine d_take 12 rfl (by kernel_rfl) (by (first | exact y_ldN rfl rfl rfl (by rfl) | exact y_as (y_ldE hin rfl rfl rfl hil rfl) (congrArg (fun z => Value.agg (encIns z).toArray) hx) | exact y_ld rfl rfl rfl (by rfl) | exact y_ldN rfl rfl rfl (by rfl) | exact y_ldK rfl rfl rfl rfl (by assumption) (by omega) | exact y_ldI rfl rfl rfl rfl (by assumption) (by omega) (by omega))) rfl ?_
      refine d_effM 6 [12, 11, 10, 9, 8, 7, 5, 4, 3, 2, 1, 0] [true, true, true, true, true, true, false, true, true, true, true, false] rfl (by kernel_rfl) rfl (by kernel_rfl) (fun K hK => ?_)
      refine s_call (pre := []) (rem := _) rfl rfl tk (fun w N ho hl => Reads_spec w N m A B c d x ho (ha.of hl) (by omega) hcap) rfl ?_
      rintro e L' ⟨G1, g1, rfl, rfl⟩
      try simp only [List.nil_append, List.cons_append, List.append_nil]
      refine s_done ?_
      refine hK _ _ (by refine rm_yd rfl (by (first | exact y_ldN rfl rfl rfl (by rfl) | exact y_as (y_ldE hin rfl rfl rfl hil rfl) (congrArg (fun z => Value.agg (encIns z).toArray) hx) | exact y_ld rfl rfl rfl (by rfl) | exact y_ldN rfl rfl rfl (by rfl) | exact y_ldK rfl rfl rfl rfl (by assumption) (by omega) | exact y_ldI rfl rfl rfl rfl (by assumption) (by omega) (by omega))) ?_; refine rm_yd rfl (by (first | exact y_ixE hin rfl rfl rfl rfl rfl rfl (by omega) (by omega) | exact y_ixI rfl rfl rfl rfl rfl (by assumption) rfl (by omega) (by omega))) ?_; refine rm_yd rfl (by exact y_move rfl) ?_; refine rm_yd rfl (by (first | exact y_ldN rfl rfl rfl (by rfl) | exact y_as (y_ldE hin rfl rfl rfl hil rfl) (congrArg (fun z => Value.agg (encIns z).toArray) hx) | exact y_ld rfl rfl rfl (by rfl) | exact y_ldN rfl rfl rfl (by rfl) | exact y_ldK rfl rfl rfl rfl (by assumption) (by omega) | exact y_ldI rfl rfl rfl rfl (by assumption) (by omega) (by omega))) ?_; refine rm_yd rfl (by (first | exact y_fieldAddrB rfl rfl rfl rfl rfl rfl | exact y_fieldAddr rfl rfl rfl rfl rfl rfl)) ?_; refine rm_yd rfl (by (first | exact y_ldN rfl rfl rfl (by rfl) | exact y_as (y_ldE hin rfl rfl rfl hil rfl) (congrArg (fun z => Value.agg (encIns z).toArray) hx) | exact y_ld rfl rfl rfl (by rfl) | exact y_ldN rfl rfl rfl (by rfl) | exact y_ldK rfl rfl rfl rfl (by assumption) (by omega) | exact y_ldI rfl rfl rfl rfl (by assumption) (by omega) (by omega))) ?_; refine rm_skip ?_; refine rm_yd rfl (by (first | exact y_ixE hin rfl rfl rfl rfl rfl rfl (by omega) (by omega) | exact y_ixI rfl rfl rfl rfl rfl (by assumption) rfl (by omega) (by omega))) ?_; refine rm_yd rfl (by exact y_move rfl) ?_; refine rm_yd rfl (by (first | exact y_ldN rfl rfl rfl (by rfl) | exact y_as (y_ldE hin rfl rfl rfl hil rfl) (congrArg (fun z => Value.agg (encIns z).toArray) hx) | exact y_ld rfl rfl rfl (by rfl) | exact y_ldN rfl rfl rfl (by rfl) | exact y_ldK rfl rfl rfl rfl (by assumption) (by omega) | exact y_ldI rfl rfl rfl rfl (by assumption) (by omega) (by omega))) ?_; refine rm_yd rfl (by (first | exact y_fieldAddrB rfl rfl rfl rfl rfl rfl | exact y_fieldAddr rfl rfl rfl rfl rfl rfl)) ?_; refine rm_skip ?_; exact rm_nil) ?_
      clear hK K
      refine d_effM 13 [12, 11, 10, 9, 8, 7, 4, 3, 2, 1] [false, true, true, true, true, false, true, true, true, true] rfl (by kernel_rfl) rfl (by kernel_rfl) (fun K hK => ?_)
      refine s_call (pre := []) (rem := _) rfl rfl tk (fun w N ho hl => Writes_spec w N m A B c d x ho) rfl ?_
      rintro e L' ⟨G2, g2, rfl, rfl⟩
      try simp only [List.nil_append, List.cons_append, List.append_nil]
      refine s_done ?_
      refine hK _ _ (by refine rm_skip ?_; refine rm_yd rfl (by (first | exact y_ixE hin rfl rfl rfl rfl rfl rfl (by omega) (by omega) | exact y_ixI rfl rfl rfl rfl rfl (by assumption) rfl (by omega) (by omega))) ?_; refine rm_yd rfl (by exact y_move rfl) ?_; refine rm_yd rfl (by (first | exact y_ldN rfl rfl rfl (by rfl) | exact y_as (y_ldE hin rfl rfl rfl hil rfl) (congrArg (fun z => Value.agg (encIns z).toArray) hx) | exact y_ld rfl rfl rfl (by rfl) | exact y_ldN rfl rfl rfl (by rfl) | exact y_ldK rfl rfl rfl rfl (by assumption) (by omega) | exact y_ldI rfl rfl rfl rfl (by assumption) (by omega) (by omega))) ?_; refine rm_yd rfl (by (first | exact y_fieldAddrB rfl rfl rfl rfl rfl rfl | exact y_fieldAddr rfl rfl rfl rfl rfl rfl)) ?_; refine rm_skip ?_; refine rm_yd rfl (by (first | exact y_ixE hin rfl rfl rfl rfl rfl rfl (by omega) (by omega) | exact y_ixI rfl rfl rfl rfl rfl (by assumption) rfl (by omega) (by omega))) ?_; refine rm_yd rfl (by exact y_move rfl) ?_; refine rm_yd rfl (by (first | exact y_ldN rfl rfl rfl (by rfl) | exact y_as (y_ldE hin rfl rfl rfl hil rfl) (congrArg (fun z => Value.agg (encIns z).toArray) hx) | exact y_ld rfl rfl rfl (by rfl) | exact y_ldN rfl rfl rfl (by rfl) | exact y_ldK rfl rfl rfl rfl (by assumption) (by omega) | exact y_ldI rfl rfl rfl rfl (by assumption) (by omega) (by omega))) ?_; refine rm_yd rfl (by (first | exact y_fieldAddrB rfl rfl rfl rfl rfl rfl | exact y_fieldAddr rfl rfl rfl rfl rfl rfl)) ?_; exact rm_nil) ?_
      clear hK K
      refine d_take 14 rfl (by kernel_rfl) (by exact y_assign rfl) rfl ?_
      refine d_take 15 rfl (by kernel_rfl) (by exact y_assign rfl) rfl ?_
      refine d_done (by kernel_rfl) ?_
      refine s_seq ?_
      refine s_seq ?_
      refine s_region ?_
      refine s_q (by (first | exact y_ld rfl rfl rfl (by rfl) | exact y_ldN rfl rfl rfl (by rfl) | exact y_ldK rfl rfl rfl rfl (by assumption) (by omega) | exact y_ldI rfl rfl rfl rfl (by assumption) (by omega) (by omega))) rfl ?_
      refine s_q (by (first | exact y_fieldAddrB rfl rfl rfl rfl rfl rfl | exact y_fieldAddr rfl rfl rfl rfl rfl rfl)) rfl ?_
      refine s_q (by (first | exact y_ld rfl rfl rfl (by rfl) | exact y_ldN rfl rfl rfl (by rfl) | exact y_ldK rfl rfl rfl rfl (by assumption) (by omega) | exact y_ldI rfl rfl rfl rfl (by assumption) (by omega) (by omega))) rfl ?_
      refine s_q (y_move rfl) rfl ?_
      refine s_call (pre := []) (rem := _) rfl rfl tk (fun w N ho hl => all_spec w N m A B G1 c d _ g1 f (readsL m.args x) rfl ho (keOfS (fun _ => rfl) (by omega) hl (by repeat (first | exact List.mem_cons_self | refine List.mem_cons_of_mem _ ?_))) hrl) rfl ?_
      rintro e L' ⟨rfl, rfl⟩
      try simp only [List.nil_append, List.cons_append, List.append_nil]
      rw [ra]
      refine s_q (by (first | exact y_notT rfl | exact y_notF rfl | exact y_notp rfl | exact y_notb rfl)) rfl ?_
      refine s_q (y_move rfl) rfl ?_
      refine s_guard2 rfl rfl (congrArg Value.bool (by decide)) ?_
      refine s_q (by (first | exact y_ld rfl rfl rfl (by rfl) | exact y_ldN rfl rfl rfl (by rfl) | exact y_ldK rfl rfl rfl rfl (by assumption) (by omega) | exact y_ldI rfl rfl rfl rfl (by assumption) (by omega) (by omega))) rfl ?_
      refine s_guard2 rfl rfl (congrArg Value.bool (by decide)) ?_
      refine s_q (by (first | exact y_fieldAddrB rfl rfl rfl rfl rfl rfl | exact y_fieldAddr rfl rfl rfl rfl rfl rfl)) rfl ?_
      refine s_guard2 rfl rfl (congrArg Value.bool (by decide)) ?_
      refine s_q (by (first | exact y_ld rfl rfl rfl (by rfl) | exact y_ldN rfl rfl rfl (by rfl) | exact y_ldK rfl rfl rfl rfl (by assumption) (by omega) | exact y_ldI rfl rfl rfl rfl (by assumption) (by omega) (by omega))) rfl ?_
      refine s_guard2 rfl rfl (congrArg Value.bool (by decide)) ?_
      refine s_q (y_move rfl) rfl ?_
      refine s_guard2 rfl rfl (congrArg Value.bool (by decide)) ?_
      refine s_call (pre := []) (rem := _) rfl rfl tk (fun w N ho hl => all_spec w N m A B G2 c d _ g2 f (writesL m.ret x) rfl ho (keOfS (fun _ => rfl) (by omega) hl (by repeat (first | exact List.mem_cons_self | refine List.mem_cons_of_mem _ ?_))) (by omega)) rfl ?_
      rintro e L' ⟨rfl, rfl⟩
      try simp only [List.nil_append, List.cons_append, List.append_nil]
      rw [wa]
      refine s_guard2 rfl rfl (congrArg Value.bool (by decide)) ?_
      refine s_q (by (first | exact y_notT rfl | exact y_notF rfl | exact y_notp rfl | exact y_notb rfl)) rfl ?_
      refine s_q (by (first | exact y_pickT rfl rfl | exact y_pickF rfl rfl)) rfl ?_
      refine s_q (y_move rfl) rfl ?_
      refine s_guard2 rfl rfl (congrArg Value.bool (by decide)) ?_
      refine s_q (y_move rfl) rfl ?_
      refine s_guard2 rfl rfl (congrArg Value.bool (by decide)) ?_
      refine s_q (y_lenS rfl rfl rfl) rfl ?_
      refine s_guard2 rfl rfl (congrArg Value.bool (by decide)) ?_
      refine s_q (by (first | exact y_as (y_gtr rfl rfl) (congrArg Value.bool (decide_eq_false hw1)) | exact y_gtr rfl rfl)) rfl ?_
      refine s_q (by (first | exact y_pickT rfl rfl | exact y_pickF rfl rfl)) rfl ?_
      refine s_q (y_move rfl) rfl ?_
      refine s_guard2 rfl rfl (congrArg Value.bool (by decide)) ?_
      refine s_q (by (first | exact y_fieldAddrB rfl rfl rfl rfl rfl rfl | exact y_fieldAddr rfl rfl rfl rfl rfl rfl)) rfl ?_
      refine s_guard2 rfl rfl (congrArg Value.bool (by decide)) ?_
      refine s_q (by (first | exact y_as (y_ldF (v := .int .i64 (b.ins.getD i .no).op) hin rfl rfl rfl hil rfl) (congrArg (fun z : InsD => Value.int .i64 z.op) hx) | exact y_ld rfl rfl rfl (by rfl) | exact y_ldN rfl rfl rfl (by rfl) | exact y_ldK rfl rfl rfl rfl (by assumption) (by omega) | exact y_ldI rfl rfl rfl rfl (by assumption) (by omega) (by omega))) rfl ?_
      refine s_guard2 rfl rfl (congrArg Value.bool (by decide)) ?_
      refine s_q (y_move rfl) rfl ?_
      refine s_guard2 rfl rfl (congrArg Value.bool (by decide)) ?_
      refine s_q (by (first | exact y_ixE hin rfl rfl rfl rfl rfl rfl (by omega) (by omega) | exact y_ixI rfl rfl rfl rfl rfl (by assumption) rfl (by omega) (by omega))) rfl ?_
      refine s_guard2 rfl rfl (congrArg Value.bool (by decide)) ?_
      refine s_q (by (first | exact y_fieldAddrB rfl rfl rfl rfl rfl rfl | exact y_fieldAddr rfl rfl rfl rfl rfl rfl)) rfl ?_
      refine s_guard2 rfl rfl (congrArg Value.bool (by decide)) ?_
      refine s_q (by (first | exact y_as (y_ldF (v := .int .i64 (b.ins.getD i .no).op) hin rfl rfl rfl hil rfl) (congrArg (fun z : InsD => Value.int .i64 z.op) hx) | exact y_ld rfl rfl rfl (by rfl) | exact y_ldN rfl rfl rfl (by rfl) | exact y_ldK rfl rfl rfl rfl (by assumption) (by omega) | exact y_ldI rfl rfl rfl rfl (by assumption) (by omega) (by omega))) rfl ?_
      refine s_guard2 rfl rfl (congrArg Value.bool (by decide)) ?_
      refine s_call (pre := []) (rem := _) rfl rfl tk (fun w N ho hl => Inserted_spec w N x.op ho) rfl ?_
      rintro e L' ⟨rfl, rfl⟩
      try simp only [List.nil_append, List.cons_append, List.append_nil]
      cases hI : insertedB x.op with
      | true =>
        obtain ⟨i1, i2⟩ := inserted_one (args := m.args) (ret := m.ret) hI
        have j1 : ¬ ((readsL m.args x).length : Int) ≠ 1 := by omega
        have j2 : ¬ ((writesL m.ret x).length : Int) ≠ 1 := by omega
        refine s_guard2 rfl rfl (congrArg Value.bool (by decide)) ?_
        refine s_q (y_move rfl) rfl ?_
        refine s_guard2 rfl rfl (by with_reducible rfl) ?_
        refine s_q (y_move rfl) rfl ?_
        refine s_guard2 rfl rfl (by with_reducible rfl) ?_
        refine s_q (y_lenS rfl rfl rfl) rfl ?_
        refine s_guard2 rfl rfl (by with_reducible rfl) ?_
        refine s_q (by (first | exact y_as (y_neq rfl rfl) (congrArg Value.bool (decide_eq_false j1)) | exact y_as (y_neq rfl rfl) (congrArg Value.bool (decide_eq_false j2)) | exact y_neq rfl rfl | exact y_neqB rfl rfl rfl)) rfl ?_
        refine s_guard2 rfl rfl (by with_reducible rfl) ?_
        refine s_q (y_move rfl) rfl ?_
        refine s_guard2 rfl rfl (by with_reducible rfl) ?_
        refine s_q (y_move rfl) rfl ?_
        refine s_guard2 rfl rfl (by with_reducible rfl) ?_
        refine s_q (y_lenS rfl rfl rfl) rfl ?_
        refine s_guard2 rfl rfl (by with_reducible rfl) ?_
        refine s_q (by (first | exact y_as (y_neq rfl rfl) (congrArg Value.bool (decide_eq_false j1)) | exact y_as (y_neq rfl rfl) (congrArg Value.bool (decide_eq_false j2)) | exact y_neq rfl rfl | exact y_neqB rfl rfl rfl)) rfl ?_
        refine s_guard2 rfl rfl (by with_reducible rfl) ?_
        refine s_q (by (first | exact y_pickT rfl rfl | exact y_pickF rfl rfl)) rfl ?_
        refine s_guard2 rfl rfl (congrArg Value.bool (by decide)) ?_
        refine s_q (by (first | exact y_pickT rfl rfl | exact y_pickF rfl rfl)) rfl ?_
        refine s_q (by (first | exact y_pickT rfl rfl | exact y_pickF rfl rfl)) rfl ?_
        refine s_q (y_move rfl) rfl ?_
        refine s_guard2 rfl rfl (by with_reducible rfl) ?_
        refine s_q (by (first | exact y_fieldAddrB rfl rfl rfl rfl rfl rfl | exact y_fieldAddr rfl rfl rfl rfl rfl rfl)) rfl ?_
        refine s_guard2 rfl rfl (by with_reducible rfl) ?_
        refine s_q (by (first | exact y_as (y_ldF (v := .int .i64 (b.ins.getD i .no).op) hin rfl rfl rfl hil rfl) (congrArg (fun z : InsD => Value.int .i64 z.op) hx) | exact y_ld rfl rfl rfl (by rfl) | exact y_ldN rfl rfl rfl (by rfl) | exact y_ldK rfl rfl rfl rfl (by assumption) (by omega) | exact y_ldI rfl rfl rfl rfl (by assumption) (by omega) (by omega))) rfl ?_
        refine s_guard2 rfl rfl (by with_reducible rfl) ?_
        refine s_q (y_move rfl) rfl ?_
        refine s_guard2 rfl rfl (by with_reducible rfl) ?_
        refine s_q (by (first | exact y_ixE hin rfl rfl rfl rfl rfl rfl (by omega) (by omega) | exact y_ixI rfl rfl rfl rfl rfl (by assumption) rfl (by omega) (by omega))) rfl ?_
        refine s_guard2 rfl rfl (by with_reducible rfl) ?_
        refine s_q (by (first | exact y_fieldAddrB rfl rfl rfl rfl rfl rfl | exact y_fieldAddr rfl rfl rfl rfl rfl rfl)) rfl ?_
        refine s_guard2 rfl rfl (by with_reducible rfl) ?_
        refine s_q (by (first | exact y_as (y_ldF (v := .int .i64 (b.ins.getD i .no).op) hin rfl rfl rfl hil rfl) (congrArg (fun z : InsD => Value.int .i64 z.op) hx) | exact y_ld rfl rfl rfl (by rfl) | exact y_ldN rfl rfl rfl (by rfl) | exact y_ldK rfl rfl rfl rfl (by assumption) (by omega) | exact y_ldI rfl rfl rfl rfl (by assumption) (by omega) (by omega))) rfl ?_
        refine s_guard2 rfl rfl (by with_reducible rfl) ?_
        refine s_q (by (first | exact y_as (y_eql rfl rfl) (congrArg Value.bool (decide_eq_false hop)) | exact y_eql rfl rfl | exact y_eqlB rfl rfl rfl)) rfl ?_
        refine s_q (by (first | exact y_pickT rfl rfl | exact y_pickF rfl rfl)) rfl ?_
        refine s_done ?_
        refine s_condF2 rfl (by with_reducible rfl) ?_
        refine s_skip ?_
        refine s_region ?_
        refine s_q (y_move rfl) rfl ?_
        refine s_q (y_add rfl rfl (by omega)) rfl ?_
        refine s_q (y_assign rfl) rfl ?_
        refine s_done ?_
        refine s_endb ?_
        refine s_region ?_
        refine s_q (y_move rfl) rfl ?_
        refine s_q (y_add rfl rfl (by omega)) rfl ?_
        refine s_q (y_assign rfl) rfl ?_
        refine s_done ?_
        refine s_inv (i + 1, n + 1) ⟨(by (try dsimp only); omega), by dsimp only; omega⟩ (by (try dsimp only); omega) ⟨rfl, rfl, rfl, rfl, rfl, rfl, trivial⟩ tk
      | false =>
        refine s_guard2 rfl rfl (congrArg Value.bool (by decide)) ?_
        refine s_q (y_move rfl) rfl ?_
        refine s_unguard2 (b := false) rfl rfl (by with_reducible rfl) rfl rfl ?_
        refine s_unguard2 (b := false) rfl rfl (by with_reducible rfl) rfl rfl ?_
        refine s_unguard2 (b := false) rfl rfl (by with_reducible rfl) rfl rfl ?_
        refine s_unguard2 (b := false) rfl rfl (by with_reducible rfl) rfl rfl ?_
        refine s_unguardU rfl rfl rfl ?_
        refine s_unguardU rfl rfl rfl ?_
        refine s_unguardU rfl rfl rfl ?_
        refine s_unguard2 (b := false) rfl rfl (by with_reducible rfl) rfl rfl ?_
        refine s_guard2 rfl rfl (congrArg Value.bool (by decide)) ?_
        refine s_q (by (first | exact y_pickT rfl rfl | exact y_pickF rfl rfl)) rfl ?_
        refine s_q (by (first | exact y_pickT rfl rfl | exact y_pickF rfl rfl)) rfl ?_
        refine s_q (y_move rfl) rfl ?_
        refine s_guard2 rfl rfl (by with_reducible rfl) ?_
        refine s_q (by (first | exact y_fieldAddrB rfl rfl rfl rfl rfl rfl | exact y_fieldAddr rfl rfl rfl rfl rfl rfl)) rfl ?_
        refine s_guard2 rfl rfl (by with_reducible rfl) ?_
        refine s_q (by (first | exact y_as (y_ldF (v := .int .i64 (b.ins.getD i .no).op) hin rfl rfl rfl hil rfl) (congrArg (fun z : InsD => Value.int .i64 z.op) hx) | exact y_ld rfl rfl rfl (by rfl) | exact y_ldN rfl rfl rfl (by rfl) | exact y_ldK rfl rfl rfl rfl (by assumption) (by omega) | exact y_ldI rfl rfl rfl rfl (by assumption) (by omega) (by omega))) rfl ?_
        refine s_guard2 rfl rfl (by with_reducible rfl) ?_
        refine s_q (y_move rfl) rfl ?_
        refine s_guard2 rfl rfl (by with_reducible rfl) ?_
        refine s_q (by (first | exact y_ixE hin rfl rfl rfl rfl rfl rfl (by omega) (by omega) | exact y_ixI rfl rfl rfl rfl rfl (by assumption) rfl (by omega) (by omega))) rfl ?_
        refine s_guard2 rfl rfl (by with_reducible rfl) ?_
        refine s_q (by (first | exact y_fieldAddrB rfl rfl rfl rfl rfl rfl | exact y_fieldAddr rfl rfl rfl rfl rfl rfl)) rfl ?_
        refine s_guard2 rfl rfl (by with_reducible rfl) ?_
        refine s_q (by (first | exact y_as (y_ldF (v := .int .i64 (b.ins.getD i .no).op) hin rfl rfl rfl hil rfl) (congrArg (fun z : InsD => Value.int .i64 z.op) hx) | exact y_ld rfl rfl rfl (by rfl) | exact y_ldN rfl rfl rfl (by rfl) | exact y_ldK rfl rfl rfl rfl (by assumption) (by omega) | exact y_ldI rfl rfl rfl rfl (by assumption) (by omega) (by omega))) rfl ?_
        refine s_guard2 rfl rfl (by with_reducible rfl) ?_
        refine s_q (by (first | exact y_as (y_eql rfl rfl) (congrArg Value.bool (decide_eq_false hop)) | exact y_eql rfl rfl | exact y_eqlB rfl rfl rfl)) rfl ?_
        refine s_q (by (first | exact y_pickT rfl rfl | exact y_pickF rfl rfl)) rfl ?_
        refine s_done ?_
        refine s_condF2 rfl (by with_reducible rfl) ?_
        refine s_skip ?_
        refine s_region ?_
        refine s_q (y_move rfl) rfl ?_
        refine s_q (y_add rfl rfl (by omega)) rfl ?_
        refine s_q (y_assign rfl) rfl ?_
        refine s_done ?_
        refine s_endb ?_
        refine s_region ?_
        refine s_q (y_move rfl) rfl ?_
        refine s_q (y_add rfl rfl (by omega)) rfl ?_
        refine s_q (y_assign rfl) rfl ?_
        refine s_done ?_
        refine s_inv (i + 1, n + 1) ⟨(by (try dsimp only); omega), by dsimp only; omega⟩ (by (try dsimp only); omega) ⟨rfl, rfl, rfl, rfl, rfl, rfl, trivial⟩ tk
    · have hil : i = b.ins.length := by omega
      subst hil
      obtain ⟨na, n1⟩ := needs_all (f := f) s2 (by omega) z2
      obtain ⟨t1, t2, t3, t4⟩ := termE_in (by omega) z2
      refine s_exit rfl ?_
      refine s_seq ?_
      refine s_region ?_
      refine s_q (by (first | exact y_fieldAddrB rfl rfl rfl rfl rfl rfl | exact y_fieldAddr rfl rfl rfl rfl rfl rfl)) rfl ?_
      refine s_q (by (first | exact y_ldN rfl rfl rfl (by rfl) | exact y_ld rfl rfl rfl (by rfl) | exact y_ldN rfl rfl rfl (by rfl) | exact y_ldK rfl rfl rfl rfl (by assumption) (by omega) | exact y_ldI rfl rfl rfl rfl (by assumption) (by omega) (by omega))) rfl ?_
      refine s_call (pre := []) (rem := _) rfl rfl tk (fun w N ho hl => Needs_spec w N b.kind b.a b.t0 b.t1 ho) rfl ?_
      rintro e L' ⟨G3, g3, rfl, rfl⟩
      try simp only [List.nil_append, List.cons_append, List.append_nil]
      refine s_q (y_assign rfl) rfl ?_
      refine s_done ?_
      refine s_seq ?_
      refine s_seq ?_
      have n2 : ¬ (1 : Int) < ((needsL b.kind b.a).length : Int) := by omega
      obtain ⟨l3, h3⟩ : ∃ l3, needsL b.kind b.a = l3 := ⟨_, rfl⟩
      rw [h3] at na n1 n2 ⊢
      refine s_joinV (σ := Unit) (fun s => [(142, .bool false)]) [] (fun s => []) (fun s => True) [(2, _), (3, _), (5, _), (6, _), (7, _)] ⟨rfl, rfl, rfl, rfl, rfl, trivial⟩ tk (fun k' hr => ?_) ?_
      · by_cases k3 : b.kind = 3
        · by_cases a1 : b.a = -1
          · have hL : l3 = [] := by rw [← h3, needsL, if_neg (by omega)]
            subst hL
            refine d_start ?_
            refine d_take 0 rfl (by kernel_rfl) (by (first | exact y_ldN rfl rfl rfl (by rfl) | exact y_ld rfl rfl rfl (by rfl) | exact y_ldN rfl rfl rfl (by rfl) | exact y_ldK rfl rfl rfl rfl (by assumption) (by omega) | exact y_ldI rfl rfl rfl rfl (by assumption) (by omega) (by omega))) rfl ?_
            refine d_take 1 rfl (by kernel_rfl) (by (first | exact y_fieldAddrB rfl rfl rfl rfl rfl rfl | exact y_fieldAddr rfl rfl rfl rfl rfl rfl)) rfl ?_
            refine d_take 2 rfl (by kernel_rfl) (by (first | exact y_ldN rfl rfl rfl (by rfl) | exact y_ld rfl rfl rfl (by rfl) | exact y_ldN rfl rfl rfl (by rfl) | exact y_ldK rfl rfl rfl rfl (by assumption) (by omega) | exact y_ldI rfl rfl rfl rfl (by assumption) (by omega) (by omega))) rfl ?_
            refine d_take 3 rfl (by kernel_rfl) (by exact y_move rfl) rfl ?_
            refine d_effM 4 [3, 2, 1, 0] [false, false, true, false] rfl (by kernel_rfl) rfl (by kernel_rfl) (fun K hK => ?_)
            refine s_call (pre := []) (rem := _) rfl rfl tk (fun w N ho hl => all_ok w N m A B G3 c d _ g3 f [] rfl ho (keOfS (fun _ => rfl) (by omega) hl (by repeat (first | exact List.mem_cons_self | refine List.mem_cons_of_mem _ ?_))) (by simp) na) rfl ?_
            rintro e L' ⟨rfl, rfl⟩
            try simp only [List.nil_append, List.cons_append, List.append_nil]
            refine s_done ?_
            refine hK _ _ (by refine rm_skip ?_; refine rm_skip ?_; refine rm_yd rfl (by (first | exact y_fieldAddrB rfl rfl rfl rfl rfl rfl | exact y_fieldAddr rfl rfl rfl rfl rfl rfl)) ?_; refine rm_skip ?_; exact rm_nil) ?_
            clear hK K
            refine d_take 5 rfl (by kernel_rfl) (by (first | exact y_notT rfl | exact y_notF rfl | exact y_notp rfl | exact y_notb rfl)) rfl ?_
            refine d_take 6 rfl (by kernel_rfl) (by exact y_move rfl) rfl ?_
            refine d_takeG 7 rfl (by kernel_rfl) rfl rfl (by exact y_move rfl) rfl ?_
            refine d_takeG 8 rfl (by kernel_rfl) rfl rfl (by exact y_lenS rfl rfl rfl) rfl ?_
            refine d_takeG 9 rfl (by kernel_rfl) rfl rfl (by (first | exact y_as (y_gtr rfl rfl) (congrArg Value.bool (decide_eq_false n2)) | exact y_gtr rfl rfl)) rfl ?_
            refine d_take 10 rfl (by kernel_rfl) (by (first | exact y_pickT rfl rfl | exact y_pickF rfl rfl)) rfl ?_
            refine d_take 11 rfl (by kernel_rfl) (by exact y_move rfl) rfl ?_
            refine d_takeG 12 rfl (by kernel_rfl) rfl rfl (by (first | exact y_fieldAddrB rfl rfl rfl rfl rfl rfl | exact y_fieldAddr rfl rfl rfl rfl rfl rfl)) rfl ?_
            refine d_takeG 13 rfl (by kernel_rfl) rfl rfl (by (first | exact y_fieldAddrB rfl rfl rfl rfl rfl rfl | exact y_fieldAddr rfl rfl rfl rfl rfl rfl)) rfl ?_
            refine d_takeG 14 rfl (by kernel_rfl) rfl rfl (by (first | exact y_ldN rfl rfl rfl (by rfl) | exact y_ld rfl rfl rfl (by rfl) | exact y_ldN rfl rfl rfl (by rfl) | exact y_ldK rfl rfl rfl rfl (by assumption) (by omega) | exact y_ldI rfl rfl rfl rfl (by assumption) (by omega) (by omega))) rfl ?_
            refine d_takeG 15 rfl (by kernel_rfl) rfl rfl (by (first | exact y_as (y_eql rfl rfl) (congrArg Value.bool (decide_eq_true k3)) | exact y_eql rfl rfl | exact y_eqlB rfl rfl rfl)) rfl ?_
            refine d_takeG 16 rfl (by kernel_rfl) rfl rfl (by exact y_move rfl) rfl ?_
            refine d_takeG 17 rfl (by kernel_rfl) rfl rfl (by exact y_move rfl) rfl ?_
            refine d_takeG 18 rfl (by kernel_rfl) rfl rfl (by exact y_lenS rfl rfl rfl) rfl ?_
            refine d_takeG 19 rfl (by kernel_rfl) rfl rfl (by (first | exact y_as (y_gtr rfl rfl) (congrArg Value.bool (decide_eq_false n2)) | exact y_gtr rfl rfl)) rfl ?_
            refine d_takeG 20 rfl (by kernel_rfl) rfl rfl (by (first | exact y_pickT rfl rfl | exact y_pickF rfl rfl)) rfl ?_
            refine d_takeG 21 rfl (by kernel_rfl) rfl rfl (by exact y_move rfl) rfl ?_
            refine d_skip 22 rfl (by kernel_rfl) (fun c e => by cases e) rfl rfl rfl rfl ?_
            refine d_skip 23 rfl (by kernel_rfl) (fun c e => by cases e) rfl rfl rfl rfl ?_
            refine d_skip 24 rfl (by kernel_rfl) (fun c e => by cases e) rfl rfl rfl rfl ?_
            refine d_skip 25 rfl (by kernel_rfl) (fun c e => by cases e) rfl rfl rfl rfl ?_
            refine d_skip 26 rfl (by kernel_rfl) (fun c e => by cases e) rfl rfl rfl rfl ?_
            refine d_skip 27 rfl (by kernel_rfl) (fun c e => by cases e) rfl rfl rfl rfl ?_
            refine d_skip 28 rfl (by kernel_rfl) (fun c e => by cases e) rfl rfl rfl rfl ?_
            refine d_takeG 29 rfl (by kernel_rfl) rfl rfl (by (first | exact y_pickT rfl rfl | exact y_pickF rfl rfl)) rfl ?_
            refine d_take 30 rfl (by kernel_rfl) (by (first | exact y_pickT rfl rfl | exact y_pickF rfl rfl)) rfl ?_
            refine d_done (by kernel_rfl) ?_
            have hr' := hr () trivial
            try dsimp only [List.cons_append, List.nil_append, List.append_nil] at hr'
            exact J.to hr' ⟨rfl, rfl, rfl, rfl, rfl, rfl, trivial⟩ tk
          · have hL : l3 = [(false, b.a)] := by rw [← h3, needsL, if_pos (.inl ⟨k3, a1⟩)]; rfl
            have har := t4 k3 a1
            subst hL
            refine d_start ?_
            refine d_take 0 rfl (by kernel_rfl) (by (first | exact y_ldN rfl rfl rfl (by rfl) | exact y_ldOF (q := 0) (v := .int .i64 b.a) rfl rfl rfl rfl | exact y_ld rfl rfl rfl (by rfl) | exact y_ldN rfl rfl rfl (by rfl) | exact y_ldK rfl rfl rfl rfl (by assumption) (by omega) | exact y_ldI rfl rfl rfl rfl (by assumption) (by omega) (by omega))) rfl ?_
            refine d_take 1 rfl (by kernel_rfl) (by (first | exact y_fieldAddrB rfl rfl rfl rfl rfl rfl | exact y_fieldAddr rfl rfl rfl rfl rfl rfl)) rfl ?_
            refine d_take 2 rfl (by kernel_rfl) (by (first | exact y_ldN rfl rfl rfl (by rfl) | exact y_ldOF (q := 0) (v := .int .i64 b.a) rfl rfl rfl rfl | exact y_ld rfl rfl rfl (by rfl) | exact y_ldN rfl rfl rfl (by rfl) | exact y_ldK rfl rfl rfl rfl (by assumption) (by omega) | exact y_ldI rfl rfl rfl rfl (by assumption) (by omega) (by omega))) rfl ?_
            refine d_take 3 rfl (by kernel_rfl) (by exact y_move rfl) rfl ?_
            refine d_effM 4 [3, 2, 1, 0] [false, false, true, false] rfl (by kernel_rfl) rfl (by kernel_rfl) (fun K hK => ?_)
            refine s_call (pre := []) (rem := _) rfl rfl tk (fun w N ho hl => all_ok w N m A B G3 c d _ g3 f [(false, b.a)] rfl ho (keOfS (fun _ => rfl) (by omega) hl (by repeat (first | exact List.mem_cons_self | refine List.mem_cons_of_mem _ ?_))) (by simp) na) rfl ?_
            rintro e L' ⟨rfl, rfl⟩
            try simp only [List.nil_append, List.cons_append, List.append_nil]
            refine s_done ?_
            refine hK _ _ (by refine rm_skip ?_; refine rm_skip ?_; refine rm_yd rfl (by (first | exact y_fieldAddrB rfl rfl rfl rfl rfl rfl | exact y_fieldAddr rfl rfl rfl rfl rfl rfl)) ?_; refine rm_skip ?_; exact rm_nil) ?_
            clear hK K
            refine d_take 5 rfl (by kernel_rfl) (by (first | exact y_notT rfl | exact y_notF rfl | exact y_notp rfl | exact y_notb rfl)) rfl ?_
            refine d_take 6 rfl (by kernel_rfl) (by exact y_move rfl) rfl ?_
            refine d_takeG 7 rfl (by kernel_rfl) rfl rfl (by exact y_move rfl) rfl ?_
            refine d_takeG 8 rfl (by kernel_rfl) rfl rfl (by exact y_lenS rfl rfl rfl) rfl ?_
            refine d_takeG 9 rfl (by kernel_rfl) rfl rfl (by (first | exact y_as (y_gtr rfl rfl) (congrArg Value.bool (decide_eq_false n2)) | exact y_gtr rfl rfl)) rfl ?_
            refine d_take 10 rfl (by kernel_rfl) (by (first | exact y_pickT rfl rfl | exact y_pickF rfl rfl)) rfl ?_
            refine d_take 11 rfl (by kernel_rfl) (by exact y_move rfl) rfl ?_
            refine d_takeG 12 rfl (by kernel_rfl) rfl rfl (by (first | exact y_fieldAddrB rfl rfl rfl rfl rfl rfl | exact y_fieldAddr rfl rfl rfl rfl rfl rfl)) rfl ?_
            refine d_takeG 13 rfl (by kernel_rfl) rfl rfl (by (first | exact y_fieldAddrB rfl rfl rfl rfl rfl rfl | exact y_fieldAddr rfl rfl rfl rfl rfl rfl)) rfl ?_
            refine d_takeG 14 rfl (by kernel_rfl) rfl rfl (by (first | exact y_ldN rfl rfl rfl (by rfl) | exact y_ldOF (q := 0) (v := .int .i64 b.a) rfl rfl rfl rfl | exact y_ld rfl rfl rfl (by rfl) | exact y_ldN rfl rfl rfl (by rfl) | exact y_ldK rfl rfl rfl rfl (by assumption) (by omega) | exact y_ldI rfl rfl rfl rfl (by assumption) (by omega) (by omega))) rfl ?_
            refine d_takeG 15 rfl (by kernel_rfl) rfl rfl (by (first | exact y_as (y_eql rfl rfl) (congrArg Value.bool (decide_eq_true k3)) | exact y_eql rfl rfl | exact y_eqlB rfl rfl rfl)) rfl ?_
            refine d_takeG 16 rfl (by kernel_rfl) rfl rfl (by exact y_move rfl) rfl ?_
            refine d_takeG 17 rfl (by kernel_rfl) rfl rfl (by exact y_move rfl) rfl ?_
            refine d_takeG 18 rfl (by kernel_rfl) rfl rfl (by exact y_lenS rfl rfl rfl) rfl ?_
            refine d_takeG 19 rfl (by kernel_rfl) rfl rfl (by (first | exact y_as (y_gtr rfl rfl) (congrArg Value.bool (decide_eq_false n2)) | exact y_gtr rfl rfl)) rfl ?_
            refine d_takeG 20 rfl (by kernel_rfl) rfl rfl (by (first | exact y_pickT rfl rfl | exact y_pickF rfl rfl)) rfl ?_
            refine d_takeG 21 rfl (by kernel_rfl) rfl rfl (by exact y_move rfl) rfl ?_
            refine d_takeG 22 rfl (by kernel_rfl) rfl rfl (by exact y_move rfl) rfl ?_
            refine d_takeG 23 rfl (by kernel_rfl) rfl rfl (by (first | exact y_ixO (q := 0) rfl rfl rfl rfl rfl (by decide) (by simp) (Nat.le_refl _) | exact y_ixI rfl rfl rfl rfl rfl (by assumption) rfl (by omega) (by omega))) rfl ?_
            refine d_takeG 24 rfl (by kernel_rfl) rfl rfl (by (first | exact y_fieldAddrB rfl rfl rfl rfl rfl rfl | exact y_fieldAddr rfl rfl rfl rfl rfl rfl)) rfl ?_
            refine d_takeG 25 rfl (by kernel_rfl) rfl rfl (by (first | exact y_ldN rfl rfl rfl (by rfl) | exact y_ldOF (q := 0) (v := .int .i64 b.a) rfl rfl rfl rfl | exact y_ld rfl rfl rfl (by rfl) | exact y_ldN rfl rfl rfl (by rfl) | exact y_ldK rfl rfl rfl rfl (by assumption) (by omega) | exact y_ldI rfl rfl rfl rfl (by assumption) (by omega) (by omega))) rfl ?_
            refine d_takeG 26 rfl (by kernel_rfl) rfl rfl (by (first | exact y_fieldAddrB rfl rfl rfl rfl rfl rfl | exact y_fieldAddr rfl rfl rfl rfl rfl rfl)) rfl ?_
            refine d_takeG 27 rfl (by kernel_rfl) rfl rfl (by (first | exact y_ldN rfl rfl rfl (by rfl) | exact y_ldOF (q := 0) (v := .int .i64 b.a) rfl rfl rfl rfl | exact y_ld rfl rfl rfl (by rfl) | exact y_ldN rfl rfl rfl (by rfl) | exact y_ldK rfl rfl rfl rfl (by assumption) (by omega) | exact y_ldI rfl rfl rfl rfl (by assumption) (by omega) (by omega))) rfl ?_
            refine d_takeG 28 rfl (by kernel_rfl) rfl rfl (by (first | exact y_as (y_neq rfl rfl) (congrArg Value.bool (decide_eq_false (fun h => h har))) | exact y_neq rfl rfl | exact y_neqB rfl rfl rfl)) rfl ?_
            refine d_takeG 29 rfl (by kernel_rfl) rfl rfl (by (first | exact y_pickT rfl rfl | exact y_pickF rfl rfl)) rfl ?_
            refine d_take 30 rfl (by kernel_rfl) (by (first | exact y_pickT rfl rfl | exact y_pickF rfl rfl)) rfl ?_
            refine d_done (by kernel_rfl) ?_
            have hr' := hr () trivial
            try dsimp only [List.cons_append, List.nil_append, List.append_nil] at hr'
            exact J.to hr' ⟨rfl, rfl, rfl, rfl, rfl, rfl, trivial⟩ tk
        · skip
          refine d_start ?_
          refine d_take 0 rfl (by kernel_rfl) (by (first | exact y_ldN rfl rfl rfl (by rfl) | exact y_ld rfl rfl rfl (by rfl) | exact y_ldN rfl rfl rfl (by rfl) | exact y_ldK rfl rfl rfl rfl (by assumption) (by omega) | exact y_ldI rfl rfl rfl rfl (by assumption) (by omega) (by omega))) rfl ?_
          refine d_take 1 rfl (by kernel_rfl) (by (first | exact y_fieldAddrB rfl rfl rfl rfl rfl rfl | exact y_fieldAddr rfl rfl rfl rfl rfl rfl)) rfl ?_
          refine d_take 2 rfl (by kernel_rfl) (by (first | exact y_ldN rfl rfl rfl (by rfl) | exact y_ld rfl rfl rfl (by rfl) | exact y_ldN rfl rfl rfl (by rfl) | exact y_ldK rfl rfl rfl rfl (by assumption) (by omega) | exact y_ldI rfl rfl rfl rfl (by assumption) (by omega) (by omega))) rfl ?_
          refine d_take 3 rfl (by kernel_rfl) (by exact y_move rfl) rfl ?_
          refine d_effM 4 [3, 2, 1, 0] [false, false, true, false] rfl (by kernel_rfl) rfl (by kernel_rfl) (fun K hK => ?_)
          refine s_call (pre := []) (rem := _) rfl rfl tk (fun w N ho hl => all_ok w N m A B G3 c d _ g3 f _ rfl ho (keOfS (fun _ => rfl) (by omega) hl (by repeat (first | exact List.mem_cons_self | refine List.mem_cons_of_mem _ ?_))) (by omega) na) rfl ?_
          rintro e L' ⟨rfl, rfl⟩
          try simp only [List.nil_append, List.cons_append, List.append_nil]
          refine s_done ?_
          refine hK _ _ (by refine rm_skip ?_; refine rm_skip ?_; refine rm_yd rfl (by (first | exact y_fieldAddrB rfl rfl rfl rfl rfl rfl | exact y_fieldAddr rfl rfl rfl rfl rfl rfl)) ?_; refine rm_skip ?_; exact rm_nil) ?_
          clear hK K
          refine d_take 5 rfl (by kernel_rfl) (by (first | exact y_notT rfl | exact y_notF rfl | exact y_notp rfl | exact y_notb rfl)) rfl ?_
          refine d_take 6 rfl (by kernel_rfl) (by exact y_move rfl) rfl ?_
          refine d_takeG 7 rfl (by kernel_rfl) rfl rfl (by exact y_move rfl) rfl ?_
          refine d_takeG 8 rfl (by kernel_rfl) rfl rfl (by exact y_lenS rfl rfl rfl) rfl ?_
          refine d_takeG 9 rfl (by kernel_rfl) rfl rfl (by (first | exact y_as (y_gtr rfl rfl) (congrArg Value.bool (decide_eq_false n2)) | exact y_gtr rfl rfl)) rfl ?_
          refine d_take 10 rfl (by kernel_rfl) (by (first | exact y_pickT rfl rfl | exact y_pickF rfl rfl)) rfl ?_
          refine d_take 11 rfl (by kernel_rfl) (by exact y_move rfl) rfl ?_
          refine d_takeG 12 rfl (by kernel_rfl) rfl rfl (by (first | exact y_fieldAddrB rfl rfl rfl rfl rfl rfl | exact y_fieldAddr rfl rfl rfl rfl rfl rfl)) rfl ?_
          refine d_takeG 13 rfl (by kernel_rfl) rfl rfl (by (first | exact y_fieldAddrB rfl rfl rfl rfl rfl rfl | exact y_fieldAddr rfl rfl rfl rfl rfl rfl)) rfl ?_
          refine d_takeG 14 rfl (by kernel_rfl) rfl rfl (by (first | exact y_ldN rfl rfl rfl (by rfl) | exact y_ld rfl rfl rfl (by rfl) | exact y_ldN rfl rfl rfl (by rfl) | exact y_ldK rfl rfl rfl rfl (by assumption) (by omega) | exact y_ldI rfl rfl rfl rfl (by assumption) (by omega) (by omega))) rfl ?_
          refine d_takeG 15 rfl (by kernel_rfl) rfl rfl (by (first | exact y_as (y_eql rfl rfl) (congrArg Value.bool (decide_eq_false k3)) | exact y_eql rfl rfl | exact y_eqlB rfl rfl rfl)) rfl ?_
          refine d_takeG 16 rfl (by kernel_rfl) rfl rfl (by exact y_move rfl) rfl ?_
          refine d_skip 17 rfl (by kernel_rfl) (fun c e => by cases e) rfl rfl rfl rfl ?_
          refine d_skip 18 rfl (by kernel_rfl) (fun c e => by cases e) rfl rfl rfl rfl ?_
          refine d_skip 19 rfl (by kernel_rfl) (fun c e => by cases e) rfl rfl rfl rfl ?_
          refine d_takeG 20 rfl (by kernel_rfl) rfl rfl (by (first | exact y_pickT rfl rfl | exact y_pickF rfl rfl)) rfl ?_
          refine d_takeG 21 rfl (by kernel_rfl) rfl rfl (by exact y_move rfl) rfl ?_
          refine d_skip 22 rfl (by kernel_rfl) (fun c e => by cases e) rfl rfl rfl rfl ?_
          refine d_skip 23 rfl (by kernel_rfl) (fun c e => by cases e) rfl rfl rfl rfl ?_
          refine d_skip 24 rfl (by kernel_rfl) (fun c e => by cases e) rfl rfl rfl rfl ?_
          refine d_skip 25 rfl (by kernel_rfl) (fun c e => by cases e) rfl rfl rfl rfl ?_
          refine d_skip 26 rfl (by kernel_rfl) (fun c e => by cases e) rfl rfl rfl rfl ?_
          refine d_skip 27 rfl (by kernel_rfl) (fun c e => by cases e) rfl rfl rfl rfl ?_
          refine d_skip 28 rfl (by kernel_rfl) (fun c e => by cases e) rfl rfl rfl rfl ?_
          refine d_takeG 29 rfl (by kernel_rfl) rfl rfl (by (first | exact y_pickT rfl rfl | exact y_pickF rfl rfl)) rfl ?_
          refine d_take 30 rfl (by kernel_rfl) (by (first | exact y_pickT rfl rfl | exact y_pickF rfl rfl)) rfl ?_
          refine d_done (by kernel_rfl) ?_
          have hr' := hr () trivial
          try dsimp only [List.cons_append, List.nil_append, List.append_nil] at hr'
          exact J.to hr' ⟨rfl, rfl, rfl, rfl, rfl, rfl, trivial⟩ tk
      rintro - -
      dsimp only [List.cons_append, List.nil_append]
      refine s_condF2 rfl (by with_reducible rfl) ?_
      refine s_skip ?_
      refine s_seq ?_
      refine s_seq ?_
      refine s_region ?_
      refine s_q (y_assign rfl) rfl ?_
      refine s_done ?_
      refine s_block ?_
      refine s_loopV (σ := Nat) (fun s => [(12, .int .i64 s)]) (fun s => []) (fun s => (s ≤ 2)) (fun s => 2 - s) (0) [(2, _), (3, _), (5, _), (6, _), (7, _)] ⟨rfl, rfl, rfl, rfl, rfl, trivial⟩ ⟨rfl, trivial⟩ tk (Nat.zero_le _) ?_
      rintro j hj
      try dsimp only [List.cons_append, List.nil_append, List.append_nil] at hj ⊢
      refine s_seq ?_
      refine s_seq ?_
      refine s_region ?_
      refine s_q (y_move rfl) rfl ?_
      refine s_q (y_lss rfl rfl) rfl ?_
      refine s_done ?_
      refine s_cond rfl (fun hc3 => ?_) (fun hc3 => ?_)
      · have hjj : j = 0 ∨ j = 1 := by omega
        have u0 : ¬ b.t0 < 0 := by omega
        have u1 : ¬ b.t1 < 0 := by omega
        have u2 : ¬ b.t0 ≥ (bs.length : Int) := by omega
        have u3 : ¬ b.t1 ≥ (bs.length : Int) := by omega
        refine s_skip ?_
        refine s_seq ?_
        refine s_block ?_
        refine s_seq ?_
        refine s_joinV (σ := Unit) (fun s => [(163, .bool false)]) [] (fun s => []) (fun s => True) [(2, _), (3, _), (5, _), (6, _), (7, _), (12, _)] ⟨rfl, rfl, rfl, rfl, rfl, rfl, trivial⟩ tk (fun k' hr => ?_) ?_
        · rcases hjj with rfl | rfl
          · skip
            refine d_start ?_
            refine d_take 0 rfl (by kernel_rfl) (by exact y_move rfl) rfl ?_
            refine d_take 1 rfl (by kernel_rfl) (by (first | exact y_fieldAddrB rfl rfl rfl rfl rfl rfl | exact y_fieldAddr rfl rfl rfl rfl rfl rfl)) rfl ?_
            refine d_take 2 rfl (by kernel_rfl) (by (first | exact y_fieldAddrB rfl rfl rfl rfl rfl rfl | exact y_fieldAddr rfl rfl rfl rfl rfl rfl)) rfl ?_
            refine d_take 3 rfl (by kernel_rfl) (by (first | exact y_indexAddrA (q := 0) rfl rfl rfl rfl rfl (by decide) (by decide) | exact y_ixI rfl rfl rfl rfl rfl (by assumption) rfl (by omega) (by omega))) rfl ?_
            refine d_take 4 rfl (by kernel_rfl) (by (first | exact y_ld rfl rfl rfl (by rfl) | exact y_ldN rfl rfl rfl (by rfl) | exact y_ldK rfl rfl rfl rfl (by assumption) (by omega) | exact y_ldI rfl rfl rfl rfl (by assumption) (by omega) (by omega))) rfl ?_
            refine d_take 5 rfl (by kernel_rfl) (by (first | exact y_as (y_lss rfl rfl) (congrArg Value.bool (decide_eq_false u0)) | exact y_lss rfl rfl)) rfl ?_
            refine d_take 6 rfl (by kernel_rfl) (by exact y_move rfl) rfl ?_
            refine d_takeG 7 rfl (by kernel_rfl) rfl rfl (by exact y_move rfl) rfl ?_
            refine d_takeG 8 rfl (by kernel_rfl) rfl rfl (by (first | exact y_fieldAddrB rfl rfl rfl rfl rfl rfl | exact y_fieldAddr rfl rfl rfl rfl rfl rfl)) rfl ?_
            refine d_takeG 9 rfl (by kernel_rfl) rfl rfl (by (first | exact y_fieldAddrB rfl rfl rfl rfl rfl rfl | exact y_fieldAddr rfl rfl rfl rfl rfl rfl)) rfl ?_
            refine d_takeG 10 rfl (by kernel_rfl) rfl rfl (by (first | exact y_indexAddrA (q := 0) rfl rfl rfl rfl rfl (by decide) (by decide) | exact y_ixI rfl rfl rfl rfl rfl (by assumption) rfl (by omega) (by omega))) rfl ?_
            refine d_takeG 11 rfl (by kernel_rfl) rfl rfl (by (first | exact y_ld rfl rfl rfl (by rfl) | exact y_ldN rfl rfl rfl (by rfl) | exact y_ldK rfl rfl rfl rfl (by assumption) (by omega) | exact y_ldI rfl rfl rfl rfl (by assumption) (by omega) (by omega))) rfl ?_
            refine d_takeG 12 rfl (by kernel_rfl) rfl rfl (by (first | exact y_fieldAddrB rfl rfl rfl rfl rfl rfl | exact y_fieldAddr rfl rfl rfl rfl rfl rfl)) rfl ?_
            refine d_takeG 13 rfl (by kernel_rfl) rfl rfl (by (first | exact y_ld rfl rfl rfl (by rfl) | exact y_ldN rfl rfl rfl (by rfl) | exact y_ldK rfl rfl rfl rfl (by assumption) (by omega) | exact y_ldI rfl rfl rfl rfl (by assumption) (by omega) (by omega))) rfl ?_
            refine d_takeG 14 rfl (by kernel_rfl) rfl rfl (by exact y_lenS rfl rfl rfl) rfl ?_
            refine d_takeG 15 rfl (by kernel_rfl) rfl rfl (by (first | exact y_as (y_geq rfl rfl) (congrArg Value.bool (decide_eq_false u2)) | exact y_geq rfl rfl)) rfl ?_
            refine d_take 16 rfl (by kernel_rfl) (by (first | exact y_pickT rfl rfl | exact y_pickF rfl rfl)) rfl ?_
            refine d_done (by kernel_rfl) ?_
            have hr' := hr () trivial
            try dsimp only [List.cons_append, List.nil_append, List.append_nil] at hr'
            exact J.to hr' ⟨rfl, rfl, rfl, rfl, rfl, rfl, rfl, trivial⟩ tk
          · skip
            refine d_start ?_
            refine d_take 0 rfl (by kernel_rfl) (by exact y_move rfl) rfl ?_
            refine d_take 1 rfl (by kernel_rfl) (by (first | exact y_fieldAddrB rfl rfl rfl rfl rfl rfl | exact y_fieldAddr rfl rfl rfl rfl rfl rfl)) rfl ?_
            refine d_take 2 rfl (by kernel_rfl) (by (first | exact y_fieldAddrB rfl rfl rfl rfl rfl rfl | exact y_fieldAddr rfl rfl rfl rfl rfl rfl)) rfl ?_
            refine d_take 3 rfl (by kernel_rfl) (by (first | exact y_indexAddrA (q := 1) rfl rfl rfl rfl rfl (by decide) (by decide) | exact y_ixI rfl rfl rfl rfl rfl (by assumption) rfl (by omega) (by omega))) rfl ?_
            refine d_take 4 rfl (by kernel_rfl) (by (first | exact y_ld rfl rfl rfl (by rfl) | exact y_ldN rfl rfl rfl (by rfl) | exact y_ldK rfl rfl rfl rfl (by assumption) (by omega) | exact y_ldI rfl rfl rfl rfl (by assumption) (by omega) (by omega))) rfl ?_
            refine d_take 5 rfl (by kernel_rfl) (by (first | exact y_as (y_lss rfl rfl) (congrArg Value.bool (decide_eq_false u1)) | exact y_lss rfl rfl)) rfl ?_
            refine d_take 6 rfl (by kernel_rfl) (by exact y_move rfl) rfl ?_
            refine d_takeG 7 rfl (by kernel_rfl) rfl rfl (by exact y_move rfl) rfl ?_
            refine d_takeG 8 rfl (by kernel_rfl) rfl rfl (by (first | exact y_fieldAddrB rfl rfl rfl rfl rfl rfl | exact y_fieldAddr rfl rfl rfl rfl rfl rfl)) rfl ?_
            refine d_takeG 9 rfl (by kernel_rfl) rfl rfl (by (first | exact y_fieldAddrB rfl rfl rfl rfl rfl rfl | exact y_fieldAddr rfl rfl rfl rfl rfl rfl)) rfl ?_
            refine d_takeG 10 rfl (by kernel_rfl) rfl rfl (by (first | exact y_indexAddrA (q := 1) rfl rfl rfl rfl rfl (by decide) (by decide) | exact y_ixI rfl rfl rfl rfl rfl (by assumption) rfl (by omega) (by omega))) rfl ?_
            refine d_takeG 11 rfl (by kernel_rfl) rfl rfl (by (first | exact y_ld rfl rfl rfl (by rfl) | exact y_ldN rfl rfl rfl (by rfl) | exact y_ldK rfl rfl rfl rfl (by assumption) (by omega) | exact y_ldI rfl rfl rfl rfl (by assumption) (by omega) (by omega))) rfl ?_
            refine d_takeG 12 rfl (by kernel_rfl) rfl rfl (by (first | exact y_fieldAddrB rfl rfl rfl rfl rfl rfl | exact y_fieldAddr rfl rfl rfl rfl rfl rfl)) rfl ?_
            refine d_takeG 13 rfl (by kernel_rfl) rfl rfl (by (first | exact y_ld rfl rfl rfl (by rfl) | exact y_ldN rfl rfl rfl (by rfl) | exact y_ldK rfl rfl rfl rfl (by assumption) (by omega) | exact y_ldI rfl rfl rfl rfl (by assumption) (by omega) (by omega))) rfl ?_
            refine d_takeG 14 rfl (by kernel_rfl) rfl rfl (by exact y_lenS rfl rfl rfl) rfl ?_
            refine d_takeG 15 rfl (by kernel_rfl) rfl rfl (by (first | exact y_as (y_geq rfl rfl) (congrArg Value.bool (decide_eq_false u3)) | exact y_geq rfl rfl)) rfl ?_
            refine d_take 16 rfl (by kernel_rfl) (by (first | exact y_pickT rfl rfl | exact y_pickF rfl rfl)) rfl ?_
            refine d_done (by kernel_rfl) ?_
            have hr' := hr () trivial
            try dsimp only [List.cons_append, List.nil_append, List.append_nil] at hr'
            exact J.to hr' ⟨rfl, rfl, rfl, rfl, rfl, rfl, rfl, trivial⟩ tk
        rintro - -
        dsimp only [List.cons_append, List.nil_append]
        refine s_condF2 rfl (by with_reducible rfl) ?_
        refine s_skip ?_
        refine s_endb ?_
        refine s_region ?_
        refine s_q (y_move rfl) rfl ?_
        refine s_q (y_add rfl rfl (by omega)) rfl ?_
        refine s_q (y_assign rfl) rfl ?_
        refine s_done ?_
        refine s_inv (j + 1) (by (try dsimp only); omega) (by (try dsimp only); omega) ⟨rfl, rfl, rfl, rfl, rfl, rfl, trivial⟩ tk
      · refine s_exit rfl ?_
        refine s_region ?_
        refine s_q (y_move rfl) rfl ?_
        refine s_q (y_add rfl rfl (by omega)) rfl ?_
        refine s_q (y_assign rfl) rfl ?_
        refine s_done ?_
        refine s_endb ?_
        refine s_region ?_
        refine s_q (y_move rfl) rfl ?_
        refine s_q (y_add rfl rfl (by omega)) rfl ?_
        refine s_q (y_assign rfl) rfl ?_
        refine s_done ?_
        refine s_inv (k + 1, n + 1) ⟨(by (try dsimp only); omega), by dsimp only; omega⟩ (by (try dsimp only); omega) ⟨rfl, rfl, rfl, rfl, trivial⟩ tk
  · have hkl : k = bs.length := by omega
    subst hkl
    rw [List.drop_length, sumI] at hf1
    refine s_exit rfl ?_
    refine s_seq ?_
    refine s_region ?_
    refine s_q (by (first | exact y_ldN rfl rfl rfl (by rfl) | exact y_ld rfl rfl rfl (by rfl) | exact y_ldN rfl rfl rfl (by rfl) | exact y_ldK rfl rfl rfl rfl (by assumption) (by omega) | exact y_ldI rfl rfl rfl rfl (by assumption) (by omega) (by omega))) rfl ?_
    refine s_call (pre := []) (rem := _) rfl rfl tk (fun w N ho hl => machRight_spec w N A B c d m ho (ha.of hl) (hs.of hl) hla hls) rfl ?_
    rintro e L' ⟨rfl, rfl⟩
    try simp only [List.nil_append, List.cons_append, List.append_nil]
    rw [r1]
    refine s_q (y_move rfl) rfl ?_
    refine s_guard2 rfl rfl (by with_reducible rfl) ?_
    refine s_q (by (first | exact y_ldN rfl rfl rfl (by rfl) | exact y_ld rfl rfl rfl (by rfl) | exact y_ldN rfl rfl rfl (by rfl) | exact y_ldK rfl rfl rfl rfl (by assumption) (by omega) | exact y_ldI rfl rfl rfl rfl (by assumption) (by omega) (by omega))) rfl ?_
    refine s_guard2 rfl rfl (by with_reducible rfl) ?_
    refine s_call (pre := []) (rem := _) rfl rfl tk (fun w N ho hl => Size_spec w N T q f bs ho (hb.of hl) (by omega) (fun b hb => by have := r6 b hb; omega)) rfl ?_
    rintro e L' ⟨rfl, rfl⟩
    try simp only [List.nil_append, List.cons_append, List.append_nil]
    have hn1 : (sizeT bs : Int) = (n : Int) := by omega
    refine s_guard2 rfl rfl (by with_reducible rfl) ?_
    refine s_q (y_move rfl) rfl ?_
    refine s_guard2 rfl rfl (by with_reducible rfl) ?_
    refine s_q (by (first | exact y_as (y_eql rfl rfl) (congrArg Value.bool (decide_eq_true hn1)) | exact y_eql rfl rfl | exact y_eqlB rfl rfl rfl)) rfl ?_
    refine s_q (by (first | exact y_pickT rfl rfl | exact y_pickF rfl rfl)) rfl ?_
    refine s_q (y_assign rfl) rfl ?_
    refine s_done ?_
    exact s_return ⟨rfl, rfl⟩ (res_tmp Try.results7 rfl)
end Go.Proofs.Ytgpebcfeeagoaaa
