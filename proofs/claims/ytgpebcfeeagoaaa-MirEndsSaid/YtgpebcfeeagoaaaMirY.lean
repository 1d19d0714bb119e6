/- Layer 6 (mir): the walk through MirTells. -/
import Derived.Test.YtgpebcfeeagoaaaMirX
import Derived.Test.YtgpebcfeeagoaaaMirT
import Derived.Test.YtgpebcfeeagoaaaMirK
import Derived.Test.YtgpebcfeeagoaaaMirWider
import Derived.Test.YtgpebcfeeagoaaaEEb
set_option linter.unusedVariables false
set_option linter.unusedSimpArgs false
namespace Go.Proofs.Ytgpebcfeeagoaaa
open Go Go.E
set_option maxRecDepth 4000
set_option maxHeartbeats 1000000
theorem tok_like {l bs : List BlkD} (h : AllLike l bs) (ht : TOK bs) (hxl : ∀ b ∈ bs, ∀ i ∈ b.ins, i.xs.length < 1000000) (hil : ∀ b ∈ bs, b.ins.length < 1000000) : TOK l ∧ (∀ b ∈ l, ∀ i ∈ b.ins, i.xs.length < 1000000) ∧ (∀ b ∈ l, b.ins.length < 1000000) := by
  have key : ∀ b ∈ l, ∀ i ∈ b.ins, ∃ b' ∈ bs, ∃ j ∈ b'.ins, i.core = j.core := fun b hb i hi => by
    obtain ⟨b', hb', hk⟩ := like_mem h.len h.each b hb
    obtain ⟨j, hj, e⟩ := hk.ins.mem hi
    exact ⟨b', hb', j, hj, e⟩
  refine ⟨⟨by rw [h.len]; exact ht.len, fun b hb => ?_, fun b hb i hi => ?_, fun b hb i hi => ?_⟩, fun b hb i hi => ?_, fun b hb => ?_⟩
  · obtain ⟨b', hb', hk⟩ := like_mem h.len h.each b hb
    rw [hk.ins.len]; exact ht.ins b' hb'
  · obtain ⟨b', hb', j, hj, e⟩ := key b hb i hi
    exact (core_xs e).2 (ht.ok b' hb' j hj)
  · obtain ⟨b', hb', j, hj, e⟩ := key b hb i hi
    rw [(core_xs e).1]; exact ht.args b' hb' j hj
  · obtain ⟨b', hb', j, hj, e⟩ := key b hb i hi
    rw [(core_xs e).1]; exact hxl b' hb' j hj
  · obtain ⟨b', hb', hk⟩ := like_mem h.len h.each b hb
    rw [hk.ins.len]; exact hil b' hb'
theorem MirTells_spec (w : World) (N : Nat → Prop) (m : MV) (A B T : Option Addr) (c d q : Nat) (f : Int) (bs : List BlkD) (ho : Owns w [] N) (ha : KI w N A m.args) (hs : KI w N B m.saved) (hla : m.args.length < 100000000000000) (hls : m.saved.length < 100000000000000) (hcap : m.args.length ≤ c) (hb : KB w N T bs) (ht : TOK bs) (hf : i64 f) :
    Ret Try.prog 4 [.agg (mval m A c B d).toArray, .agg #[.int .i64 f, .slice T bs.length q]] w N fun v L => v = .bool true ∧ L = [] := by
  refine ret_of_J cx Try.func4 rfl (Nat.le_of_ble_eq_true rfl) ho ?_
  refine s_seq ?_
  refine s_region ?_
  first | (refine s_box1 rfl rfl rfl (fun b4 => ?_)) | (refine s_boxA rfl rfl (fun b4 => ?_))
  first | (refine s_box1 rfl rfl rfl (fun b5 => ?_)) | (refine s_boxA rfl rfl (fun b5 => ?_))
  change J _ _ _ (cb b5 27 [.int .i64 f, .slice T bs.length q] :: cb b4 24 (mval m A c B d) :: _) _
  refine s_q (y_assign rfl) rfl ?_
  refine s_done ?_
  refine s_seq ?_
  refine s_seq ?_
  by_cases e1 : (1500 : Int) < cntB bs 0 + ((m.args.length : Int) + m.saved.length)
  · skip
    refine d_start ?_
    refine d_take 0 rfl (by kernel_rfl) (by (first | exact y_ldN rfl rfl rfl (by rfl) | exact y_ld rfl rfl rfl (by rfl) | exact y_ldN rfl rfl rfl (by rfl) | exact y_ldK rfl rfl rfl rfl (by assumption) (by omega) | exact y_ldI rfl rfl rfl rfl (by assumption) (by omega) (by omega))) rfl ?_
    refine d_take 2 rfl (by kernel_rfl) (by (first | exact y_ldN rfl rfl rfl (by rfl) | exact y_ld rfl rfl rfl (by rfl) | exact y_ldN rfl rfl rfl (by rfl) | exact y_ldK rfl rfl rfl rfl (by assumption) (by omega) | exact y_ldI rfl rfl rfl rfl (by assumption) (by omega) (by omega))) rfl ?_
    refine d_effM 1 [2, 0] [true, false] rfl (by kernel_rfl) rfl (by kernel_rfl) (fun K hK => ?_)
    refine s_call (pre := []) (rem := _) rfl rfl tk (fun w N ho hl => TargetOf_spec w N T q f bs ho (hb.of hl) ht) rfl ?_
    rintro e L' ⟨h0, hn, hc, rfl, rfl⟩
    try simp only [List.nil_append, List.cons_append, List.append_nil]
    refine s_done ?_
    refine hK _ _ (by refine rm_yd rfl (by (first | exact y_ldN rfl rfl rfl (by rfl) | exact y_ld rfl rfl rfl (by rfl) | exact y_ldN rfl rfl rfl (by rfl) | exact y_ldK rfl rfl rfl rfl (by assumption) (by omega) | exact y_ldI rfl rfl rfl rfl (by assumption) (by omega) (by omega))) ?_; refine rm_skip ?_; exact rm_nil) ?_
    clear hK K
    refine d_effM 3 [2] [false] rfl (by kernel_rfl) rfl (by kernel_rfl) (fun K hK => ?_)
    refine s_call (pre := []) (rem := _) rfl rfl tk (fun w N ho hl => MachineOf_spec w N A B c d m ho hla hls) rfl ?_
    rintro e L' ⟨rfl, rfl⟩
    try simp only [List.nil_append, List.cons_append, List.append_nil]
    refine s_done ?_
    refine hK _ _ (by refine rm_skip ?_; exact rm_nil) ?_
    clear hK K
    refine d_take 4 rfl (by kernel_rfl) (by exact y_add rfl rfl (by omega)) rfl ?_
    refine d_take 5 rfl (by kernel_rfl) (by (first | exact y_as (y_gtr rfl rfl) (congrArg Value.bool (decide_eq_true e1)) | exact y_gtr rfl rfl)) rfl ?_
    refine d_done (by kernel_rfl) ?_
    refine s_condT2 rfl (by with_reducible rfl) ?_
    refine s_seq ?_
    refine s_region ?_
    refine s_call (pre := []) (rem := _) rfl rfl tk (fun w N ho hl => awake_spec w N ho) rfl ?_
    rintro e L' ⟨rfl, rfl⟩
    try simp only [List.nil_append, List.cons_append, List.append_nil]
    refine s_q (y_assign rfl) rfl ?_
    refine s_done ?_
    exact s_return ⟨rfl, rfl⟩ (res_tmp Try.results4 rfl)
  refine d_start ?_
  refine d_take 0 rfl (by kernel_rfl) (by (first | exact y_ldN rfl rfl rfl (by rfl) | exact y_ld rfl rfl rfl (by rfl) | exact y_ldN rfl rfl rfl (by rfl) | exact y_ldK rfl rfl rfl rfl (by assumption) (by omega) | exact y_ldI rfl rfl rfl rfl (by assumption) (by omega) (by omega))) rfl ?_
  refine d_take 2 rfl (by kernel_rfl) (by (first | exact y_ldN rfl rfl rfl (by rfl) | exact y_ld rfl rfl rfl (by rfl) | exact y_ldN rfl rfl rfl (by rfl) | exact y_ldK rfl rfl rfl rfl (by assumption) (by omega) | exact y_ldI rfl rfl rfl rfl (by assumption) (by omega) (by omega))) rfl ?_
  refine d_effM 1 [2, 0] [true, false] rfl (by kernel_rfl) rfl (by kernel_rfl) (fun K hK => ?_)
  refine s_call (pre := []) (rem := _) rfl rfl tk (fun w N ho hl => TargetOf_spec w N T q f bs ho (hb.of hl) ht) rfl ?_
  rintro e L' ⟨h0, hn, hc, rfl, rfl⟩
  try simp only [List.nil_append, List.cons_append, List.append_nil]
  refine s_done ?_
  refine hK _ _ (by refine rm_yd rfl (by (first | exact y_ldN rfl rfl rfl (by rfl) | exact y_ld rfl rfl rfl (by rfl) | exact y_ldN rfl rfl rfl (by rfl) | exact y_ldK rfl rfl rfl rfl (by assumption) (by omega) | exact y_ldI rfl rfl rfl rfl (by assumption) (by omega) (by omega))) ?_; refine rm_skip ?_; exact rm_nil) ?_
  clear hK K
  refine d_effM 3 [2] [false] rfl (by kernel_rfl) rfl (by kernel_rfl) (fun K hK => ?_)
  refine s_call (pre := []) (rem := _) rfl rfl tk (fun w N ho hl => MachineOf_spec w N A B c d m ho hla hls) rfl ?_
  rintro e L' ⟨rfl, rfl⟩
  try simp only [List.nil_append, List.cons_append, List.append_nil]
  refine s_done ?_
  refine hK _ _ (by refine rm_skip ?_; exact rm_nil) ?_
  clear hK K
  refine d_take 4 rfl (by kernel_rfl) (by exact y_add rfl rfl (by omega)) rfl ?_
  refine d_take 5 rfl (by kernel_rfl) (by (first | exact y_as (y_gtr rfl rfl) (congrArg Value.bool (decide_eq_false e1)) | exact y_gtr rfl rfl)) rfl ?_
  refine d_done (by kernel_rfl) ?_
  have hct := hc (by omega)
  have hlen : bs.length < 1000000 := by omega
  have hil : ∀ b ∈ bs, b.ins.length < 1000000 := fun b hb => by
    obtain ⟨k, hk, rfl⟩ := getD_of_mem BlkD.no hb
    have := (hct.2 k hk).1; omega
  have hxl : ∀ b ∈ bs, ∀ i ∈ b.ins, i.xs.length < 1000000 := fun b hb i hi => by
    obtain ⟨k, hk, rfl⟩ := getD_of_mem BlkD.no hb
    have := (hct.2 k hk).2 i hi; omega
  refine s_condF2 rfl (by with_reducible rfl) ?_
  refine s_skip ?_
  refine s_seq ?_
  refine s_region ?_
  refine s_q (by (first | exact y_ldN rfl rfl rfl (by rfl) | exact y_ld rfl rfl rfl (by rfl) | exact y_ldN rfl rfl rfl (by rfl) | exact y_ldK rfl rfl rfl rfl (by assumption) (by omega) | exact y_ldI rfl rfl rfl rfl (by assumption) (by omega) (by omega))) rfl ?_
  refine s_call (pre := []) (rem := _) rfl rfl tk (fun w N ho hl => LentTarget_spec w N T q f bs ho (hb.of hl) hxl hlen hil) rfl ?_
  rintro e L' ⟨v', ⟨T', t', l, hal, rfl, rfl⟩, rfl⟩
  try simp only [List.nil_append, List.cons_append, List.append_nil]
  obtain ⟨htl, hxl', hil'⟩ := tok_like hal ht hxl hil
  have hll := hal.len
  have hsz : (sizeT l : Int) = sizeT bs := by rw [sizeT_like hal]
  refine s_alloc rfl rfl (fun b6 => ?_)
  first | (refine s_storeW rfl rfl rfl rfl rfl (by rfl) ?_) | (refine s_storeN rfl rfl rfl rfl rfl (by rfl) ?_)
  change J _ _ _ (cb b6 27 [.int .i64 f, .slice T' l.length t'] :: _) _
  refine s_done ?_
  refine s_seq ?_
  refine d_start ?_
  refine d_take 0 rfl (by kernel_rfl) (by (first | exact y_fieldAddrB rfl rfl rfl rfl rfl rfl | exact y_fieldAddr rfl rfl rfl rfl rfl rfl)) rfl ?_
  refine d_take 1 rfl (by kernel_rfl) (by (first | exact y_ld rfl rfl rfl (by rfl) | exact y_ldN rfl rfl rfl (by rfl) | exact y_ldK rfl rfl rfl rfl (by assumption) (by omega) | exact y_ldI rfl rfl rfl rfl (by assumption) (by omega) (by omega))) rfl ?_
  refine d_take 3 rfl (by kernel_rfl) (by (first | exact y_fieldAddrB rfl rfl rfl rfl rfl rfl | exact y_fieldAddr rfl rfl rfl rfl rfl rfl)) rfl ?_
  refine d_take 4 rfl (by kernel_rfl) (by (first | exact y_ld rfl rfl rfl (by rfl) | exact y_ldN rfl rfl rfl (by rfl) | exact y_ldK rfl rfl rfl rfl (by assumption) (by omega) | exact y_ldI rfl rfl rfl rfl (by assumption) (by omega) (by omega))) rfl ?_
  refine d_effM 2 [4, 3, 1, 0] [true, true, false, true] rfl (by kernel_rfl) rfl (by kernel_rfl) (fun K hK => ?_)
  refine s_call (pre := []) (rem := _) rfl rfl tk (fun w N ho hl => LentInts_spec w N A c m.args ho (ha.of hl) (by omega)) rfl ?_
  rintro e L' ⟨A', c', rfl, rfl⟩
  try simp only [List.nil_append, List.cons_append, List.append_nil]
  refine s_done ?_
  refine hK _ _ (by refine rm_yd rfl (by (first | exact y_ld rfl rfl rfl (by rfl) | exact y_ldN rfl rfl rfl (by rfl) | exact y_ldK rfl rfl rfl rfl (by assumption) (by omega) | exact y_ldI rfl rfl rfl rfl (by assumption) (by omega) (by omega))) ?_; refine rm_yd rfl (by (first | exact y_fieldAddrB rfl rfl rfl rfl rfl rfl | exact y_fieldAddr rfl rfl rfl rfl rfl rfl)) ?_; refine rm_skip ?_; refine rm_yd rfl (by (first | exact y_fieldAddrB rfl rfl rfl rfl rfl rfl | exact y_fieldAddr rfl rfl rfl rfl rfl rfl)) ?_; exact rm_nil) ?_
  clear hK K
  refine d_effM 5 [4, 3, 0] [false, true, true] rfl (by kernel_rfl) rfl (by kernel_rfl) (fun K hK => ?_)
  refine s_call (pre := []) (rem := _) rfl rfl tk (fun w N ho hl => LentInts_spec w N B d m.saved ho (hs.of hl) (by omega)) rfl ?_
  rintro e L' ⟨B', d', rfl, rfl⟩
  try simp only [List.nil_append, List.cons_append, List.append_nil]
  refine s_done ?_
  refine hK _ _ (by refine rm_skip ?_; refine rm_yd rfl (by (first | exact y_fieldAddrB rfl rfl rfl rfl rfl rfl | exact y_fieldAddr rfl rfl rfl rfl rfl rfl)) ?_; refine rm_yd rfl (by (first | exact y_fieldAddrB rfl rfl rfl rfl rfl rfl | exact y_fieldAddr rfl rfl rfl rfl rfl rfl)) ?_; exact rm_nil) ?_
  clear hK K
  refine d_take 6 rfl (by kernel_rfl) (by exact y_assign rfl) rfl ?_
  refine d_take 7 rfl (by kernel_rfl) (by exact y_assign rfl) rfl ?_
  refine d_done (by kernel_rfl) ?_
  refine J.fact Sl.facts fun hf2 => ?_
  refine J.swap ?_
  refine J.fact Sl.facts fun hf1 => ?_
  refine s_seq ?_
  refine s_region ?_
  refine s_q (by (first | exact y_fieldAddrB rfl rfl rfl rfl rfl rfl | exact y_fieldAddr rfl rfl rfl rfl rfl rfl)) rfl ?_
  refine s_q (by (first | exact y_ld rfl rfl rfl (by rfl) | exact y_ldN rfl rfl rfl (by rfl) | exact y_ldK rfl rfl rfl rfl (by assumption) (by omega) | exact y_ldI rfl rfl rfl rfl (by assumption) (by omega) (by omega))) rfl ?_
  refine s_q (y_move rfl) rfl ?_
  refine s_q (by (first | exact y_fieldAddrB rfl rfl rfl rfl rfl rfl | exact y_fieldAddr rfl rfl rfl rfl rfl rfl)) rfl ?_
  refine s_q (by (first | exact y_ld rfl rfl rfl (by rfl) | exact y_ldN rfl rfl rfl (by rfl) | exact y_ldK rfl rfl rfl rfl (by assumption) (by omega) | exact y_ldI rfl rfl rfl rfl (by assumption) (by omega) (by omega))) rfl ?_
  refine s_q (y_move rfl) rfl ?_
  refine s_q (y_build rfl rfl rfl rfl) rfl ?_
  refine s_alloc rfl rfl (fun b8 => ?_)
  first | (refine s_storeW rfl rfl rfl rfl rfl (by rfl) ?_) | (refine s_storeN rfl rfl rfl rfl rfl (by rfl) ?_)
  change J _ _ _ (cb b8 24 (mval m A' c' B' d') :: _) _
  refine s_done ?_
  refine s_seq ?_
  refine d_start ?_
  refine d_take 0 rfl (by kernel_rfl) (by (first | exact y_ldN rfl rfl rfl (by rfl) | exact y_ld rfl rfl rfl (by rfl) | exact y_ldN rfl rfl rfl (by rfl) | exact y_ldK rfl rfl rfl rfl (by assumption) (by omega) | exact y_ldI rfl rfl rfl rfl (by assumption) (by omega) (by omega))) rfl ?_
  refine d_take 1 rfl (by kernel_rfl) (by (first | exact y_ldN rfl rfl rfl (by rfl) | exact y_ld rfl rfl rfl (by rfl) | exact y_ldN rfl rfl rfl (by rfl) | exact y_ldK rfl rfl rfl rfl (by assumption) (by omega) | exact y_ldI rfl rfl rfl rfl (by assumption) (by omega) (by omega))) rfl ?_
  refine d_take 3 rfl (by kernel_rfl) (by (first | exact y_ldN rfl rfl rfl (by rfl) | exact y_ld rfl rfl rfl (by rfl) | exact y_ldN rfl rfl rfl (by rfl) | exact y_ldK rfl rfl rfl rfl (by assumption) (by omega) | exact y_ldI rfl rfl rfl rfl (by assumption) (by omega) (by omega))) rfl ?_
  refine d_take 4 rfl (by kernel_rfl) (by (first | exact y_ldN rfl rfl rfl (by rfl) | exact y_ld rfl rfl rfl (by rfl) | exact y_ldN rfl rfl rfl (by rfl) | exact y_ldK rfl rfl rfl rfl (by assumption) (by omega) | exact y_ldI rfl rfl rfl rfl (by assumption) (by omega) (by omega))) rfl ?_
  refine d_effM 2 [4, 3, 1, 0] [true, true, false, false] rfl (by kernel_rfl) rfl (by kernel_rfl) (fun K hK => ?_)
  refine s_call (pre := []) (rem := _) rfl rfl tk (fun w N ho hl => Right_spec w N m A' B' T' c' d' t' f l ho (KI.pre (KI.ofS hl (by repeat (first | exact List.mem_cons_self | refine List.mem_cons_of_mem _ ?_)))) (KI.pre (KI.ofS hl (by repeat (first | exact List.mem_cons_self | refine List.mem_cons_of_mem _ ?_)))) hla hls (lentF hl (by repeat (first | exact List.mem_cons_self | refine List.mem_cons_of_mem _ ?_))).kb htl hf) rfl ?_
  rintro e L' ⟨rfl, rfl⟩
  try simp only [List.nil_append, List.cons_append, List.append_nil]
  refine s_done ?_
  refine hK _ _ (by refine rm_yd rfl (by (first | exact y_ldN rfl rfl rfl (by rfl) | exact y_ld rfl rfl rfl (by rfl) | exact y_ldN rfl rfl rfl (by rfl) | exact y_ldK rfl rfl rfl rfl (by assumption) (by omega) | exact y_ldI rfl rfl rfl rfl (by assumption) (by omega) (by omega))) ?_; refine rm_yd rfl (by (first | exact y_ldN rfl rfl rfl (by rfl) | exact y_ld rfl rfl rfl (by rfl) | exact y_ldN rfl rfl rfl (by rfl) | exact y_ldK rfl rfl rfl rfl (by assumption) (by omega) | exact y_ldI rfl rfl rfl rfl (by assumption) (by omega) (by omega))) ?_; refine rm_skip ?_; refine rm_skip ?_; exact rm_nil) ?_
  clear hK K
  refine d_effM 5 [4, 3] [false, false] rfl (by kernel_rfl) rfl (by kernel_rfl) (fun K hK => ?_)
  refine s_call (pre := []) (rem := _) rfl rfl tk (fun w N ho hl => refRight_spec w N m A B T c d q f bs ho (ha.of hl) (hs.of hl) (by omega) (by omega) hcap (hb.of hl) hlen hil hxl) rfl ?_
  rintro e L' ⟨rfl, rfl⟩
  try simp only [List.nil_append, List.cons_append, List.append_nil]
  refine s_done ?_
  refine hK _ _ (by refine rm_skip ?_; refine rm_skip ?_; exact rm_nil) ?_
  clear hK K
  refine d_take 6 rfl (by kernel_rfl) (by (first | exact y_as (y_eql rfl rfl) (congrArg Value.bool (decide_eq_true (rightE_like hal))) | exact y_as (y_eql rfl rfl) (congrArg Value.bool (decide_eq_true hsz)) | exact y_eql rfl rfl | exact y_eqlB rfl rfl rfl)) rfl ?_
  refine d_take 7 rfl (by kernel_rfl) (by exact y_move rfl) rfl ?_
  refine d_takeG 8 rfl (by kernel_rfl) rfl rfl (by (first | exact y_ldN rfl rfl rfl (by rfl) | exact y_ld rfl rfl rfl (by rfl) | exact y_ldN rfl rfl rfl (by rfl) | exact y_ldK rfl rfl rfl rfl (by assumption) (by omega) | exact y_ldI rfl rfl rfl rfl (by assumption) (by omega) (by omega))) rfl ?_
  refine d_takeG 10 rfl (by kernel_rfl) rfl rfl (by (first | exact y_ldN rfl rfl rfl (by rfl) | exact y_ld rfl rfl rfl (by rfl) | exact y_ldN rfl rfl rfl (by rfl) | exact y_ldK rfl rfl rfl rfl (by assumption) (by omega) | exact y_ldI rfl rfl rfl rfl (by assumption) (by omega) (by omega))) rfl ?_
  refine d_effM 9 [10, 8, 7, 6] [true, false, false, true] rfl (by kernel_rfl) rfl (by kernel_rfl) (fun K hK => ?_)
  refine s_guard rfl rfl ?_
  refine s_call (pre := []) (rem := _) rfl rfl tk (fun w N ho hl => Size_spec w N T' t' f l ho (lentF hl (by repeat (first | exact List.mem_cons_self | refine List.mem_cons_of_mem _ ?_))).kb (by omega) hil') rfl ?_
  rintro e L' ⟨rfl, rfl⟩
  try simp only [List.nil_append, List.cons_append, List.append_nil]
  refine s_done ?_
  refine hK _ _ (by refine rm_yd rfl (by (first | exact y_ldN rfl rfl rfl (by rfl) | exact y_ld rfl rfl rfl (by rfl) | exact y_ldN rfl rfl rfl (by rfl) | exact y_ldK rfl rfl rfl rfl (by assumption) (by omega) | exact y_ldI rfl rfl rfl rfl (by assumption) (by omega) (by omega))) ?_; refine rm_skip ?_; refine rm_skip ?_; refine rm_yd rfl (by (first | exact y_as (y_eql rfl rfl) (congrArg Value.bool (decide_eq_true (rightE_like hal))) | exact y_as (y_eql rfl rfl) (congrArg Value.bool (decide_eq_true hsz)) | exact y_eql rfl rfl | exact y_eqlB rfl rfl rfl)) ?_; exact rm_nil) ?_
  clear hK K
  refine d_effM 11 [10, 6] [false, true] rfl (by kernel_rfl) rfl (by kernel_rfl) (fun K hK => ?_)
  refine s_guard rfl rfl ?_
  refine s_call (pre := []) (rem := _) rfl rfl tk (fun w N ho hl => refSize_spec w N T q f bs ho (hb.of hl) hlen hil) rfl ?_
  rintro e L' ⟨rfl, rfl⟩
  try simp only [List.nil_append, List.cons_append, List.append_nil]
  refine s_done ?_
  refine hK _ _ (by refine rm_skip ?_; refine rm_yd rfl (by (first | exact y_as (y_eql rfl rfl) (congrArg Value.bool (decide_eq_true (rightE_like hal))) | exact y_as (y_eql rfl rfl) (congrArg Value.bool (decide_eq_true hsz)) | exact y_eql rfl rfl | exact y_eqlB rfl rfl rfl)) ?_; exact rm_nil) ?_
  clear hK K
  refine d_takeG 12 rfl (by kernel_rfl) rfl rfl (by (first | exact y_as (y_eql rfl rfl) (congrArg Value.bool (decide_eq_true (rightE_like hal))) | exact y_as (y_eql rfl rfl) (congrArg Value.bool (decide_eq_true hsz)) | exact y_eql rfl rfl | exact y_eqlB rfl rfl rfl)) rfl ?_
  refine d_take 13 rfl (by kernel_rfl) (by (first | exact y_pickT rfl rfl | exact y_pickF rfl rfl)) rfl ?_
  refine d_take 14 rfl (by kernel_rfl) (by exact y_move rfl) rfl ?_
  refine d_takeG 15 rfl (by kernel_rfl) rfl rfl (by (first | exact y_ldN rfl rfl rfl (by rfl) | exact y_ld rfl rfl rfl (by rfl) | exact y_ldN rfl rfl rfl (by rfl) | exact y_ldK rfl rfl rfl rfl (by assumption) (by omega) | exact y_ldI rfl rfl rfl rfl (by assumption) (by omega) (by omega))) rfl ?_
  refine d_takeG 16 rfl (by kernel_rfl) rfl rfl (by (first | exact y_ldN rfl rfl rfl (by rfl) | exact y_ld rfl rfl rfl (by rfl) | exact y_ldN rfl rfl rfl (by rfl) | exact y_ldK rfl rfl rfl rfl (by assumption) (by omega) | exact y_ldI rfl rfl rfl rfl (by assumption) (by omega) (by omega))) rfl ?_
  refine d_effM 17 [16, 15, 14, 13, 12, 6] [false, false, false, true, true, true] rfl (by kernel_rfl) rfl (by kernel_rfl) (fun K hK => ?_)
  refine s_guard rfl rfl ?_
  refine s_call (pre := []) (rem := _) rfl rfl tk (fun w N ho hl => KeptTarget_spec w N T' T t' q l.length bs.length f l bs rfl (by omega) hal ho (lentF hl (by repeat (first | exact List.mem_cons_self | refine List.mem_cons_of_mem _ ?_))) (hb.of hl) hxl' hil' (by omega)) rfl ?_
  rintro e L' ⟨rfl, rfl⟩
  try simp only [List.nil_append, List.cons_append, List.append_nil]
  refine s_done ?_
  refine hK _ _ (by refine rm_skip ?_; refine rm_skip ?_; refine rm_skip ?_; refine rm_yd rfl (by (first | exact y_pickT rfl rfl | exact y_pickF rfl rfl)) ?_; refine rm_yd rfl (by (first | exact y_as (y_eql rfl rfl) (congrArg Value.bool (decide_eq_true (rightE_like hal))) | exact y_as (y_eql rfl rfl) (congrArg Value.bool (decide_eq_true hsz)) | exact y_eql rfl rfl | exact y_eqlB rfl rfl rfl)) ?_; refine rm_yd rfl (by (first | exact y_as (y_eql rfl rfl) (congrArg Value.bool (decide_eq_true (rightE_like hal))) | exact y_as (y_eql rfl rfl) (congrArg Value.bool (decide_eq_true hsz)) | exact y_eql rfl rfl | exact y_eqlB rfl rfl rfl)) ?_; exact rm_nil) ?_
  clear hK K
  refine d_take 18 rfl (by kernel_rfl) (by (first | exact y_pickT rfl rfl | exact y_pickF rfl rfl)) rfl ?_
  refine d_take 19 rfl (by kernel_rfl) (by exact y_move rfl) rfl ?_
  refine d_takeG 20 rfl (by kernel_rfl) rfl rfl (by exact y_move rfl) rfl ?_
  refine d_takeG 21 rfl (by kernel_rfl) rfl rfl (by (first | exact y_fieldAddrB rfl rfl rfl rfl rfl rfl | exact y_fieldAddr rfl rfl rfl rfl rfl rfl)) rfl ?_
  refine d_takeG 22 rfl (by kernel_rfl) rfl rfl (by (first | exact y_ldN rfl rfl rfl (by rfl) | exact y_ld rfl rfl rfl (by rfl) | exact y_ldN rfl rfl rfl (by rfl) | exact y_ldK rfl rfl rfl rfl (by assumption) (by omega) | exact y_ldI rfl rfl rfl rfl (by assumption) (by omega) (by omega))) rfl ?_
  refine d_effM 23 [22, 21, 20, 19, 18, 13, 12, 6] [false, true, false, false, true, true, true, true] rfl (by kernel_rfl) rfl (by kernel_rfl) (fun K hK => ?_)
  refine s_guard rfl rfl ?_
  refine s_call (pre := []) (rem := _) rfl rfl tk (fun w N ho hl => KeptInts_spec w N A' A c' c m.args.length m.args.length m.args rfl rfl ho (KI.ofS hl (by repeat (first | exact List.mem_cons_self | refine List.mem_cons_of_mem _ ?_))) (ha.of hl) (by omega) (by omega)) rfl ?_
  rintro e L' ⟨rfl, rfl⟩
  try simp only [List.nil_append, List.cons_append, List.append_nil]
  refine s_done ?_
  refine hK _ _ (by refine rm_skip ?_; refine rm_yd rfl (by (first | exact y_fieldAddrB rfl rfl rfl rfl rfl rfl | exact y_fieldAddr rfl rfl rfl rfl rfl rfl)) ?_; refine rm_skip ?_; refine rm_skip ?_; refine rm_yd rfl (by (first | exact y_pickT rfl rfl | exact y_pickF rfl rfl)) ?_; refine rm_yd rfl (by (first | exact y_pickT rfl rfl | exact y_pickF rfl rfl)) ?_; refine rm_yd rfl (by (first | exact y_as (y_eql rfl rfl) (congrArg Value.bool (decide_eq_true (rightE_like hal))) | exact y_as (y_eql rfl rfl) (congrArg Value.bool (decide_eq_true hsz)) | exact y_eql rfl rfl | exact y_eqlB rfl rfl rfl)) ?_; refine rm_yd rfl (by (first | exact y_as (y_eql rfl rfl) (congrArg Value.bool (decide_eq_true (rightE_like hal))) | exact y_as (y_eql rfl rfl) (congrArg Value.bool (decide_eq_true hsz)) | exact y_eql rfl rfl | exact y_eqlB rfl rfl rfl)) ?_; exact rm_nil) ?_
  clear hK K
  refine d_take 24 rfl (by kernel_rfl) (by (first | exact y_pickT rfl rfl | exact y_pickF rfl rfl)) rfl ?_
  refine d_take 25 rfl (by kernel_rfl) (by exact y_move rfl) rfl ?_
  refine d_takeG 26 rfl (by kernel_rfl) rfl rfl (by exact y_move rfl) rfl ?_
  refine d_takeG 27 rfl (by kernel_rfl) rfl rfl (by (first | exact y_fieldAddrB rfl rfl rfl rfl rfl rfl | exact y_fieldAddr rfl rfl rfl rfl rfl rfl)) rfl ?_
  refine d_takeG 28 rfl (by kernel_rfl) rfl rfl (by (first | exact y_ldN rfl rfl rfl (by rfl) | exact y_ld rfl rfl rfl (by rfl) | exact y_ldN rfl rfl rfl (by rfl) | exact y_ldK rfl rfl rfl rfl (by assumption) (by omega) | exact y_ldI rfl rfl rfl rfl (by assumption) (by omega) (by omega))) rfl ?_
  refine d_effM 29 [28, 27, 26, 25, 24, 21, 18, 13, 12, 6] [false, true, false, false, true, true, true, true, true, true] rfl (by kernel_rfl) rfl (by kernel_rfl) (fun K hK => ?_)
  refine s_guard rfl rfl ?_
  refine s_call (pre := []) (rem := _) rfl rfl tk (fun w N ho hl => KeptInts_spec w N B' B d' d m.saved.length m.saved.length m.saved rfl rfl ho (KI.ofS hl (by repeat (first | exact List.mem_cons_self | refine List.mem_cons_of_mem _ ?_))) (hs.of hl) (by omega) (by omega)) rfl ?_
  rintro e L' ⟨rfl, rfl⟩
  try simp only [List.nil_append, List.cons_append, List.append_nil]
  refine s_done ?_
  refine hK _ _ (by refine rm_skip ?_; refine rm_yd rfl (by (first | exact y_fieldAddrB rfl rfl rfl rfl rfl rfl | exact y_fieldAddr rfl rfl rfl rfl rfl rfl)) ?_; refine rm_skip ?_; refine rm_skip ?_; refine rm_yd rfl (by (first | exact y_pickT rfl rfl | exact y_pickF rfl rfl)) ?_; refine rm_yd rfl (by (first | exact y_fieldAddrB rfl rfl rfl rfl rfl rfl | exact y_fieldAddr rfl rfl rfl rfl rfl rfl)) ?_; refine rm_yd rfl (by (first | exact y_pickT rfl rfl | exact y_pickF rfl rfl)) ?_; refine rm_yd rfl (by (first | exact y_pickT rfl rfl | exact y_pickF rfl rfl)) ?_; refine rm_yd rfl (by (first | exact y_as (y_eql rfl rfl) (congrArg Value.bool (decide_eq_true (rightE_like hal))) | exact y_as (y_eql rfl rfl) (congrArg Value.bool (decide_eq_true hsz)) | exact y_eql rfl rfl | exact y_eqlB rfl rfl rfl)) ?_; refine rm_yd rfl (by (first | exact y_as (y_eql rfl rfl) (congrArg Value.bool (decide_eq_true (rightE_like hal))) | exact y_as (y_eql rfl rfl) (congrArg Value.bool (decide_eq_true hsz)) | exact y_eql rfl rfl | exact y_eqlB rfl rfl rfl)) ?_; exact rm_nil) ?_
  clear hK K
  refine d_take 30 rfl (by kernel_rfl) (by (first | exact y_pickT rfl rfl | exact y_pickF rfl rfl)) rfl ?_
  refine d_take 31 rfl (by kernel_rfl) (by exact y_move rfl) rfl ?_
  refine d_effM 32 [31, 30, 27, 24, 21, 18, 13, 12, 6] [false, true, true, true, true, true, true, true, true] rfl (by kernel_rfl) rfl (by kernel_rfl) (fun K hK => ?_)
  refine s_guard rfl rfl ?_
  refine s_call (pre := []) (rem := _) rfl rfl tk (fun w N ho hl => awake_spec w N ho) rfl ?_
  rintro e L' ⟨rfl, rfl⟩
  try simp only [List.nil_append, List.cons_append, List.append_nil]
  refine s_done ?_
  refine hK _ _ (by refine rm_skip ?_; refine rm_yd rfl (by (first | exact y_pickT rfl rfl | exact y_pickF rfl rfl)) ?_; refine rm_yd rfl (by (first | exact y_fieldAddrB rfl rfl rfl rfl rfl rfl | exact y_fieldAddr rfl rfl rfl rfl rfl rfl)) ?_; refine rm_yd rfl (by (first | exact y_pickT rfl rfl | exact y_pickF rfl rfl)) ?_; refine rm_yd rfl (by (first | exact y_fieldAddrB rfl rfl rfl rfl rfl rfl | exact y_fieldAddr rfl rfl rfl rfl rfl rfl)) ?_; refine rm_yd rfl (by (first | exact y_pickT rfl rfl | exact y_pickF rfl rfl)) ?_; refine rm_yd rfl (by (first | exact y_pickT rfl rfl | exact y_pickF rfl rfl)) ?_; refine rm_yd rfl (by (first | exact y_as (y_eql rfl rfl) (congrArg Value.bool (decide_eq_true (rightE_like hal))) | exact y_as (y_eql rfl rfl) (congrArg Value.bool (decide_eq_true hsz)) | exact y_eql rfl rfl | exact y_eqlB rfl rfl rfl)) ?_; refine rm_yd rfl (by (first | exact y_as (y_eql rfl rfl) (congrArg Value.bool (decide_eq_true (rightE_like hal))) | exact y_as (y_eql rfl rfl) (congrArg Value.bool (decide_eq_true hsz)) | exact y_eql rfl rfl | exact y_eqlB rfl rfl rfl)) ?_; exact rm_nil) ?_
  clear hK K
  refine d_take 33 rfl (by kernel_rfl) (by (first | exact y_pickT rfl rfl | exact y_pickF rfl rfl)) rfl ?_
  refine d_take 34 rfl (by kernel_rfl) (by exact y_assign rfl) rfl ?_
  refine d_done (by kernel_rfl) ?_
  exact s_return ⟨rfl, rfl⟩ (res_tmp Try.results4 rfl)
end Go.Proofs.Ytgpebcfeeagoaaa
