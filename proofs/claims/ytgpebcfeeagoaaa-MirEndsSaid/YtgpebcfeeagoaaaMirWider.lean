/- Layer 6 (mir): the walk through MirWider. -/
import Derived.Test.YtgpebcfeeagoaaaMirK
import Derived.Test.YtgpebcfeeagoaaaEEb
set_option linter.unusedVariables false
set_option linter.unusedSimpArgs false
namespace Go.Proofs.Ytgpebcfeeagoaaa
open Go Go.E
set_option maxRecDepth 4000
set_option maxHeartbeats 1000000
theorem blkE_like {m : MV} {f n : Int} {b b' : BlkD} (h : b.like b') : blkE m f n b = blkE m f n b' := by
  rw [blkE, blkE, h.ins.insE]
  unfold termE
  rw [h.kind, h.a, h.t0, h.t1]
theorem right_like {m : MV} {f : Int} {l bs : List BlkD} (hl : l.length = bs.length) (h : ∀ k, k < bs.length → (l.getD k .no).like (bs.getD k .no)) (hr : rightE m f bs = 0) : rightE m f l = 0 := by
  rw [rightE_zero] at hr ⊢
  obtain ⟨h1, h2, h3, h4, h5, h6, h7⟩ := hr
  have key : ∀ b ∈ l, ∃ b' ∈ bs, b.like b' := fun b hb => by
    obtain ⟨k, hk, rfl⟩ := List.mem_iff_getElem.1 hb
    have := h k (by omega)
    rw [List.getD_eq_getElem?_getD, List.getElem?_eq_getElem hk] at this
    exact ⟨bs.getD k BlkD.no, getD_mem BlkD.no (by omega), this⟩
  refine ⟨h1, by omega, by omega, h4, h5, fun b hb => ?_, fun b hb => ?_⟩
  · obtain ⟨b', hb', hk⟩ := key b hb
    rw [hk.ins.len]; exact h6 b' hb'
  · obtain ⟨b', hb', hk⟩ := key b hb
    rw [hl, blkE_like hk]; exact h7 b' hb'
theorem xs_nil {m : MV} {f : Int} {bs : List BlkD} (hr : rightE m f bs = 0) : ∀ b ∈ bs, ∀ i ∈ b.ins, i.xs = [] := fun b hb i hi => by
  obtain ⟨h1, h2, h3, h4, h5, h6, h7⟩ := rightE_zero.1 hr
  have := (blkE_zero.1 (h7 b hb)).1 i hi
  rw [insE_eq] at this
  split at this
  · cases this
  · rename_i h8
    unfold bad1 at h8
    simp only [not_or] at h8
    exact List.eq_nil_of_length_eq_zero (by omega)
theorem like_mem {l bs : List BlkD} (hl : l.length = bs.length) (h : ∀ k, k < bs.length → (l.getD k .no).like (bs.getD k .no)) : ∀ b ∈ l, ∃ b' ∈ bs, b.like b' := fun b hb => by
  obtain ⟨k, hk, rfl⟩ := List.mem_iff_getElem.1 hb
  have := h k (by omega)
  rw [List.getD_eq_getElem?_getD, List.getElem?_eq_getElem hk] at this
  exact ⟨bs.getD k BlkD.no, getD_mem BlkD.no (by omega), this⟩
theorem ok_like {l bs : List BlkD} (hl : l.length = bs.length) (h : ∀ k, k < bs.length → (l.getD k .no).like (bs.getD k .no)) (ht : TOK bs) (hx : ∀ b ∈ bs, ∀ i ∈ b.ins, i.xs = []) : TOK l ∧ ∀ b ∈ l, ∀ i ∈ b.ins, i.xs = [] := by
  have key : ∀ b ∈ l, ∀ i ∈ b.ins, ∃ b' ∈ bs, ∃ j ∈ b'.ins, i.core = j.core := fun b hb i hi => by
    obtain ⟨b', hb', hk⟩ := like_mem hl h b hb
    obtain ⟨j, hj, e⟩ := hk.ins.mem hi
    exact ⟨b', hb', j, hj, e⟩
  refine ⟨⟨by rw [hl]; exact ht.len, fun b hb => ?_, fun b hb i hi => ?_, fun b hb i hi => ?_⟩, fun b hb i hi => ?_⟩
  · obtain ⟨b', hb', hk⟩ := like_mem hl h b hb
    rw [hk.ins.len]; exact ht.ins b' hb'
  · obtain ⟨b', hb', j, hj, e⟩ := key b hb i hi
    exact (core_xs e).2 (ht.ok b' hb' j hj)
  · obtain ⟨b', hb', j, hj, e⟩ := key b hb i hi
    rw [(core_xs e).1]; exact ht.args b' hb' j hj
  · obtain ⟨b', hb', j, hj, e⟩ := key b hb i hi
    rw [(core_xs e).1]; exact hx b' hb' j hj
theorem getD_set_blk {l : List BlkD} {k j : Nat} {b : BlkD} (hk : k < l.length) : (l.set k b).getD j .no = if k = j then b else l.getD j .no := by
  rw [List.getD_eq_getElem?_getD, List.getD_eq_getElem?_getD, List.getElem?_set]
  by_cases e : k = j
  · subst e; simp [hk]
  · simp [e]
theorem MirWider_spec (w : World) (N : Nat → Prop) (m : MV) (A B T : Option Addr) (c d q : Nat) (f at_ : Int) (bs : List BlkD) (i : InsD) (ho : Owns w [] N) (ha : KI w N A m.args) (hs : KI w N B m.saved) (hla : m.args.length < 100000000000000) (hls : m.saved.length < 100000000000000) (hb : KB w N T bs) (ht : TOK bs) (hf : i64 f)
    (hi : KI w N i.A i.xs) (hio : i.ok) (hil : i.xs.length < 100000000000000) :
    Ret Try.prog 3 [.agg (mval m A c B d).toArray, .agg #[.int .i64 f, .slice T bs.length q], .agg (encIns i).toArray, .int .i64 at_] w N fun v L => v = .bool true ∧ L = [] := by
  have hlen := ht.len
  refine ret_of_J cx Try.func3 rfl (Nat.le_of_ble_eq_true rfl) ho ?_
  refine s_seq ?_
  refine s_region ?_
  first | (refine s_box1 rfl rfl rfl (fun b4 => ?_)) | (refine s_boxA rfl rfl (fun b4 => ?_))
  first | (refine s_box1 rfl rfl rfl (fun b5 => ?_)) | (refine s_boxA rfl rfl (fun b5 => ?_))
  first | (refine s_box1 rfl rfl rfl (fun b6 => ?_)) | (refine s_boxA rfl rfl (fun b6 => ?_))
  change J _ _ _ (cb b6 30 (encIns i) :: cb b5 27 [.int .i64 f, .slice T bs.length q] :: cb b4 24 (mval m A c B d) :: _) _
  refine s_q (y_assign rfl) rfl ?_
  refine s_done ?_
  refine s_seq ?_
  refine s_seq ?_
  refine s_region ?_
  refine s_call (pre := []) (rem := _) rfl rfl tk (fun w N ho hl => awake_spec w N ho) rfl ?_
  rintro e L' ⟨rfl, rfl⟩
  try simp only [List.nil_append, List.cons_append, List.append_nil]
  refine s_q (by (first | exact y_notT rfl | exact y_notF rfl | exact y_notp rfl | exact y_notb rfl)) rfl ?_
  refine s_done ?_
  refine s_condF2 rfl (by with_reducible rfl) ?_
  refine s_skip ?_
  refine s_seq ?_
  refine s_seq ?_
  have e0 : i.xs.length = i.xs.length := rfl
  by_cases e1 : (1500 : Int) < cntB bs 0 + ((m.args.length : Int) + m.saved.length) + i.xs.length
  · skip
    refine d_start ?_
    refine d_take 0 rfl (by kernel_rfl) (by (first | exact y_ldN rfl rfl rfl (by rfl) | exact y_ld rfl rfl rfl (by rfl) | exact y_ldN rfl rfl rfl (by rfl) | exact y_ldK rfl rfl rfl rfl (by assumption) (by omega) | exact y_ldI rfl rfl rfl rfl (by assumption) (by omega) (by omega))) rfl ?_
    refine d_take 2 rfl (by kernel_rfl) (by (first | exact y_ldN rfl rfl rfl (by rfl) | exact y_ld rfl rfl rfl (by rfl) | exact y_ldN rfl rfl rfl (by rfl) | exact y_ldK rfl rfl rfl rfl (by assumption) (by omega) | exact y_ldI rfl rfl rfl rfl (by assumption) (by omega) (by omega))) rfl ?_
    refine d_take 5 rfl (by kernel_rfl) (by (first | exact y_fieldAddrB rfl rfl rfl rfl rfl rfl | exact y_fieldAddr rfl rfl rfl rfl rfl rfl)) rfl ?_
    refine d_take 6 rfl (by kernel_rfl) (by (first | exact y_ldN rfl rfl rfl (by rfl) | exact y_ld rfl rfl rfl (by rfl) | exact y_ldN rfl rfl rfl (by rfl) | exact y_ldK rfl rfl rfl rfl (by assumption) (by omega) | exact y_ldI rfl rfl rfl rfl (by assumption) (by omega) (by omega))) rfl ?_
    refine d_take 7 rfl (by kernel_rfl) (by exact y_lenS rfl rfl rfl) rfl ?_
    refine d_effM 1 [7, 6, 5, 2, 0] [true, true, true, true, false] rfl (by kernel_rfl) rfl (by kernel_rfl) (fun K hK => ?_)
    refine s_call (pre := []) (rem := _) rfl rfl tk (fun w N ho hl => TargetOf_spec w N T q f bs ho (hb.of hl) ht) rfl ?_
    rintro e L' ⟨h0, hn, hc, rfl, rfl⟩
    try simp only [List.nil_append, List.cons_append, List.append_nil]
    refine s_done ?_
    refine hK _ _ (by refine rm_yd rfl (by exact y_lenS rfl rfl rfl) ?_; refine rm_yd rfl (by (first | exact y_ldN rfl rfl rfl (by rfl) | exact y_ld rfl rfl rfl (by rfl) | exact y_ldN rfl rfl rfl (by rfl) | exact y_ldK rfl rfl rfl rfl (by assumption) (by omega) | exact y_ldI rfl rfl rfl rfl (by assumption) (by omega) (by omega))) ?_; refine rm_yd rfl (by (first | exact y_fieldAddrB rfl rfl rfl rfl rfl rfl | exact y_fieldAddr rfl rfl rfl rfl rfl rfl)) ?_; refine rm_yd rfl (by (first | exact y_ldN rfl rfl rfl (by rfl) | exact y_ld rfl rfl rfl (by rfl) | exact y_ldN rfl rfl rfl (by rfl) | exact y_ldK rfl rfl rfl rfl (by assumption) (by omega) | exact y_ldI rfl rfl rfl rfl (by assumption) (by omega) (by omega))) ?_; refine rm_skip ?_; exact rm_nil) ?_
    clear hK K
    refine d_effM 3 [7, 6, 5, 2] [true, true, true, false] rfl (by kernel_rfl) rfl (by kernel_rfl) (fun K hK => ?_)
    refine s_call (pre := []) (rem := _) rfl rfl tk (fun w N ho hl => MachineOf_spec w N A B c d m ho hla hls) rfl ?_
    rintro e L' ⟨rfl, rfl⟩
    try simp only [List.nil_append, List.cons_append, List.append_nil]
    refine s_done ?_
    refine hK _ _ (by refine rm_yd rfl (by exact y_lenS rfl rfl rfl) ?_; refine rm_yd rfl (by (first | exact y_ldN rfl rfl rfl (by rfl) | exact y_ld rfl rfl rfl (by rfl) | exact y_ldN rfl rfl rfl (by rfl) | exact y_ldK rfl rfl rfl rfl (by assumption) (by omega) | exact y_ldI rfl rfl rfl rfl (by assumption) (by omega) (by omega))) ?_; refine rm_yd rfl (by (first | exact y_fieldAddrB rfl rfl rfl rfl rfl rfl | exact y_fieldAddr rfl rfl rfl rfl rfl rfl)) ?_; refine rm_skip ?_; exact rm_nil) ?_
    clear hK K
    refine d_take 4 rfl (by kernel_rfl) (by exact y_add rfl rfl (by omega)) rfl ?_
    refine d_take 8 rfl (by kernel_rfl) (by exact y_add rfl rfl (by omega)) rfl ?_
    refine d_take 9 rfl (by kernel_rfl) (by (first | exact y_as (y_gtr rfl rfl) (congrArg Value.bool (decide_eq_true e1)) | exact y_gtr rfl rfl)) rfl ?_
    refine d_take 10 rfl (by kernel_rfl) (by exact y_move rfl) rfl ?_
    refine d_skip 11 rfl (by kernel_rfl) (fun c e => by cases e) rfl rfl rfl rfl ?_
    refine d_skip 12 rfl (by kernel_rfl) (fun c e => by cases e) rfl rfl rfl rfl ?_
    refine d_skip 13 rfl (by kernel_rfl) (fun c e => by cases e) rfl rfl rfl rfl ?_
    refine d_skip 14 rfl (by kernel_rfl) (fun c e => by cases e) rfl rfl rfl rfl ?_
    refine d_take 15 rfl (by kernel_rfl) (by (first | exact y_pickT rfl rfl | exact y_pickF rfl rfl)) rfl ?_
    refine d_done (by kernel_rfl) ?_
    refine s_condT2 rfl (by with_reducible rfl) ?_
    refine s_seq ?_
    refine s_region ?_
    refine s_q (y_assign rfl) rfl ?_
    refine s_done ?_
    exact s_return ⟨rfl, rfl⟩ (res_tmp Try.results3 rfl)
  by_cases hR : rightE m f bs = 0
  rotate_left
  · skip
    refine d_start ?_
    refine d_take 0 rfl (by kernel_rfl) (by (first | exact y_ldN rfl rfl rfl (by rfl) | exact y_ld rfl rfl rfl (by rfl) | exact y_ldN rfl rfl rfl (by rfl) | exact y_ldK rfl rfl rfl rfl (by assumption) (by omega) | exact y_ldI rfl rfl rfl rfl (by assumption) (by omega) (by omega))) rfl ?_
    refine d_take 2 rfl (by kernel_rfl) (by (first | exact y_ldN rfl rfl rfl (by rfl) | exact y_ld rfl rfl rfl (by rfl) | exact y_ldN rfl rfl rfl (by rfl) | exact y_ldK rfl rfl rfl rfl (by assumption) (by omega) | exact y_ldI rfl rfl rfl rfl (by assumption) (by omega) (by omega))) rfl ?_
    refine d_take 5 rfl (by kernel_rfl) (by (first | exact y_fieldAddrB rfl rfl rfl rfl rfl rfl | exact y_fieldAddr rfl rfl rfl rfl rfl rfl)) rfl ?_
    refine d_take 6 rfl (by kernel_rfl) (by (first | exact y_ldN rfl rfl rfl (by rfl) | exact y_ld rfl rfl rfl (by rfl) | exact y_ldN rfl rfl rfl (by rfl) | exact y_ldK rfl rfl rfl rfl (by assumption) (by omega) | exact y_ldI rfl rfl rfl rfl (by assumption) (by omega) (by omega))) rfl ?_
    refine d_take 7 rfl (by kernel_rfl) (by exact y_lenS rfl rfl rfl) rfl ?_
    refine d_effM 1 [7, 6, 5, 2, 0] [true, true, true, true, false] rfl (by kernel_rfl) rfl (by kernel_rfl) (fun K hK => ?_)
    refine s_call (pre := []) (rem := _) rfl rfl tk (fun w N ho hl => TargetOf_spec w N T q f bs ho (hb.of hl) ht) rfl ?_
    rintro e L' ⟨h0, hn, hc, rfl, rfl⟩
    try simp only [List.nil_append, List.cons_append, List.append_nil]
    refine s_done ?_
    refine hK _ _ (by refine rm_yd rfl (by exact y_lenS rfl rfl rfl) ?_; refine rm_yd rfl (by (first | exact y_ldN rfl rfl rfl (by rfl) | exact y_ld rfl rfl rfl (by rfl) | exact y_ldN rfl rfl rfl (by rfl) | exact y_ldK rfl rfl rfl rfl (by assumption) (by omega) | exact y_ldI rfl rfl rfl rfl (by assumption) (by omega) (by omega))) ?_; refine rm_yd rfl (by (first | exact y_fieldAddrB rfl rfl rfl rfl rfl rfl | exact y_fieldAddr rfl rfl rfl rfl rfl rfl)) ?_; refine rm_yd rfl (by (first | exact y_ldN rfl rfl rfl (by rfl) | exact y_ld rfl rfl rfl (by rfl) | exact y_ldN rfl rfl rfl (by rfl) | exact y_ldK rfl rfl rfl rfl (by assumption) (by omega) | exact y_ldI rfl rfl rfl rfl (by assumption) (by omega) (by omega))) ?_; refine rm_skip ?_; exact rm_nil) ?_
    clear hK K
    refine d_effM 3 [7, 6, 5, 2] [true, true, true, false] rfl (by kernel_rfl) rfl (by kernel_rfl) (fun K hK => ?_)
    refine s_call (pre := []) (rem := _) rfl rfl tk (fun w N ho hl => MachineOf_spec w N A B c d m ho hla hls) rfl ?_
    rintro e L' ⟨rfl, rfl⟩
    try simp only [List.nil_append, List.cons_append, List.append_nil]
    refine s_done ?_
    refine hK _ _ (by refine rm_yd rfl (by exact y_lenS rfl rfl rfl) ?_; refine rm_yd rfl (by (first | exact y_ldN rfl rfl rfl (by rfl) | exact y_ld rfl rfl rfl (by rfl) | exact y_ldN rfl rfl rfl (by rfl) | exact y_ldK rfl rfl rfl rfl (by assumption) (by omega) | exact y_ldI rfl rfl rfl rfl (by assumption) (by omega) (by omega))) ?_; refine rm_yd rfl (by (first | exact y_fieldAddrB rfl rfl rfl rfl rfl rfl | exact y_fieldAddr rfl rfl rfl rfl rfl rfl)) ?_; refine rm_skip ?_; exact rm_nil) ?_
    clear hK K
    refine d_take 4 rfl (by kernel_rfl) (by exact y_add rfl rfl (by omega)) rfl ?_
    refine d_take 8 rfl (by kernel_rfl) (by exact y_add rfl rfl (by omega)) rfl ?_
    refine d_take 9 rfl (by kernel_rfl) (by (first | exact y_as (y_gtr rfl rfl) (congrArg Value.bool (decide_eq_false e1)) | exact y_gtr rfl rfl)) rfl ?_
    refine d_take 10 rfl (by kernel_rfl) (by exact y_move rfl) rfl ?_
    refine d_takeG 11 rfl (by kernel_rfl) rfl rfl (by (first | exact y_ldN rfl rfl rfl (by rfl) | exact y_ld rfl rfl rfl (by rfl) | exact y_ldN rfl rfl rfl (by rfl) | exact y_ldK rfl rfl rfl rfl (by assumption) (by omega) | exact y_ldI rfl rfl rfl rfl (by assumption) (by omega) (by omega))) rfl ?_
    refine d_takeG 12 rfl (by kernel_rfl) rfl rfl (by (first | exact y_ldN rfl rfl rfl (by rfl) | exact y_ld rfl rfl rfl (by rfl) | exact y_ldN rfl rfl rfl (by rfl) | exact y_ldK rfl rfl rfl rfl (by assumption) (by omega) | exact y_ldI rfl rfl rfl rfl (by assumption) (by omega) (by omega))) rfl ?_
    refine d_effM 13 [12, 11, 10, 9, 8, 4, 7, 6, 5] [false, false, false, true, true, true, true, true, true] rfl (by kernel_rfl) rfl (by kernel_rfl) (fun K hK => ?_)
    refine s_guard rfl rfl ?_
    refine s_call (pre := []) (rem := _) rfl rfl tk (fun w N ho hl => Right_spec w N m A B T c d q f bs ho (ha.of hl) (hs.of hl) hla hls (hb.of hl) ht hf) rfl ?_
    rintro e L' ⟨rfl, rfl⟩
    try simp only [List.nil_append, List.cons_append, List.append_nil]
    refine s_done ?_
    refine hK _ _ (by refine rm_skip ?_; refine rm_skip ?_; refine rm_skip ?_; refine rm_yd rfl (by (first | exact y_as (y_gtr rfl rfl) (congrArg Value.bool (decide_eq_false e1)) | exact y_gtr rfl rfl)) ?_; refine rm_yd rfl (by exact y_add rfl rfl (by omega)) ?_; refine rm_yd rfl (by exact y_add rfl rfl (by omega)) ?_; refine rm_yd rfl (by exact y_lenS rfl rfl rfl) ?_; refine rm_yd rfl (by (first | exact y_ldN rfl rfl rfl (by rfl) | exact y_ld rfl rfl rfl (by rfl) | exact y_ldN rfl rfl rfl (by rfl) | exact y_ldK rfl rfl rfl rfl (by assumption) (by omega) | exact y_ldI rfl rfl rfl rfl (by assumption) (by omega) (by omega))) ?_; refine rm_yd rfl (by (first | exact y_fieldAddrB rfl rfl rfl rfl rfl rfl | exact y_fieldAddr rfl rfl rfl rfl rfl rfl)) ?_; exact rm_nil) ?_
    clear hK K
    refine d_takeG 14 rfl (by kernel_rfl) rfl rfl (by (first | exact y_as (y_neq rfl rfl) (congrArg Value.bool (decide_eq_true hR)) | exact y_neq rfl rfl | exact y_neqB rfl rfl rfl)) rfl ?_
    refine d_take 15 rfl (by kernel_rfl) (by (first | exact y_pickT rfl rfl | exact y_pickF rfl rfl)) rfl ?_
    refine d_done (by kernel_rfl) ?_
    refine s_condT2 rfl (by with_reducible rfl) ?_
    refine s_seq ?_
    refine s_region ?_
    refine s_q (y_assign rfl) rfl ?_
    refine s_done ?_
    exact s_return ⟨rfl, rfl⟩ (res_tmp Try.results3 rfl)
  refine d_start ?_
  refine d_take 0 rfl (by kernel_rfl) (by (first | exact y_ldN rfl rfl rfl (by rfl) | exact y_ld rfl rfl rfl (by rfl) | exact y_ldN rfl rfl rfl (by rfl) | exact y_ldK rfl rfl rfl rfl (by assumption) (by omega) | exact y_ldI rfl rfl rfl rfl (by assumption) (by omega) (by omega))) rfl ?_
  refine d_take 2 rfl (by kernel_rfl) (by (first | exact y_ldN rfl rfl rfl (by rfl) | exact y_ld rfl rfl rfl (by rfl) | exact y_ldN rfl rfl rfl (by rfl) | exact y_ldK rfl rfl rfl rfl (by assumption) (by omega) | exact y_ldI rfl rfl rfl rfl (by assumption) (by omega) (by omega))) rfl ?_
  refine d_take 5 rfl (by kernel_rfl) (by (first | exact y_fieldAddrB rfl rfl rfl rfl rfl rfl | exact y_fieldAddr rfl rfl rfl rfl rfl rfl)) rfl ?_
  refine d_take 6 rfl (by kernel_rfl) (by (first | exact y_ldN rfl rfl rfl (by rfl) | exact y_ld rfl rfl rfl (by rfl) | exact y_ldN rfl rfl rfl (by rfl) | exact y_ldK rfl rfl rfl rfl (by assumption) (by omega) | exact y_ldI rfl rfl rfl rfl (by assumption) (by omega) (by omega))) rfl ?_
  refine d_take 7 rfl (by kernel_rfl) (by exact y_lenS rfl rfl rfl) rfl ?_
  refine d_effM 1 [7, 6, 5, 2, 0] [true, true, true, true, false] rfl (by kernel_rfl) rfl (by kernel_rfl) (fun K hK => ?_)
  refine s_call (pre := []) (rem := _) rfl rfl tk (fun w N ho hl => TargetOf_spec w N T q f bs ho (hb.of hl) ht) rfl ?_
  rintro e L' ⟨h0, hn, hc, rfl, rfl⟩
  try simp only [List.nil_append, List.cons_append, List.append_nil]
  refine s_done ?_
  refine hK _ _ (by refine rm_yd rfl (by exact y_lenS rfl rfl rfl) ?_; refine rm_yd rfl (by (first | exact y_ldN rfl rfl rfl (by rfl) | exact y_ld rfl rfl rfl (by rfl) | exact y_ldN rfl rfl rfl (by rfl) | exact y_ldK rfl rfl rfl rfl (by assumption) (by omega) | exact y_ldI rfl rfl rfl rfl (by assumption) (by omega) (by omega))) ?_; refine rm_yd rfl (by (first | exact y_fieldAddrB rfl rfl rfl rfl rfl rfl | exact y_fieldAddr rfl rfl rfl rfl rfl rfl)) ?_; refine rm_yd rfl (by (first | exact y_ldN rfl rfl rfl (by rfl) | exact y_ld rfl rfl rfl (by rfl) | exact y_ldN rfl rfl rfl (by rfl) | exact y_ldK rfl rfl rfl rfl (by assumption) (by omega) | exact y_ldI rfl rfl rfl rfl (by assumption) (by omega) (by omega))) ?_; refine rm_skip ?_; exact rm_nil) ?_
  clear hK K
  refine d_effM 3 [7, 6, 5, 2] [true, true, true, false] rfl (by kernel_rfl) rfl (by kernel_rfl) (fun K hK => ?_)
  refine s_call (pre := []) (rem := _) rfl rfl tk (fun w N ho hl => MachineOf_spec w N A B c d m ho hla hls) rfl ?_
  rintro e L' ⟨rfl, rfl⟩
  try simp only [List.nil_append, List.cons_append, List.append_nil]
  refine s_done ?_
  refine hK _ _ (by refine rm_yd rfl (by exact y_lenS rfl rfl rfl) ?_; refine rm_yd rfl (by (first | exact y_ldN rfl rfl rfl (by rfl) | exact y_ld rfl rfl rfl (by rfl) | exact y_ldN rfl rfl rfl (by rfl) | exact y_ldK rfl rfl rfl rfl (by assumption) (by omega) | exact y_ldI rfl rfl rfl rfl (by assumption) (by omega) (by omega))) ?_; refine rm_yd rfl (by (first | exact y_fieldAddrB rfl rfl rfl rfl rfl rfl | exact y_fieldAddr rfl rfl rfl rfl rfl rfl)) ?_; refine rm_skip ?_; exact rm_nil) ?_
  clear hK K
  refine d_take 4 rfl (by kernel_rfl) (by exact y_add rfl rfl (by omega)) rfl ?_
  refine d_take 8 rfl (by kernel_rfl) (by exact y_add rfl rfl (by omega)) rfl ?_
  refine d_take 9 rfl (by kernel_rfl) (by (first | exact y_as (y_gtr rfl rfl) (congrArg Value.bool (decide_eq_false e1)) | exact y_gtr rfl rfl)) rfl ?_
  refine d_take 10 rfl (by kernel_rfl) (by exact y_move rfl) rfl ?_
  refine d_takeG 11 rfl (by kernel_rfl) rfl rfl (by (first | exact y_ldN rfl rfl rfl (by rfl) | exact y_ld rfl rfl rfl (by rfl) | exact y_ldN rfl rfl rfl (by rfl) | exact y_ldK rfl rfl rfl rfl (by assumption) (by omega) | exact y_ldI rfl rfl rfl rfl (by assumption) (by omega) (by omega))) rfl ?_
  refine d_takeG 12 rfl (by kernel_rfl) rfl rfl (by (first | exact y_ldN rfl rfl rfl (by rfl) | exact y_ld rfl rfl rfl (by rfl) | exact y_ldN rfl rfl rfl (by rfl) | exact y_ldK rfl rfl rfl rfl (by assumption) (by omega) | exact y_ldI rfl rfl rfl rfl (by assumption) (by omega) (by omega))) rfl ?_
  refine d_effM 13 [12, 11, 10, 9, 8, 4, 7, 6, 5] [false, false, false, true, true, true, true, true, true] rfl (by kernel_rfl) rfl (by kernel_rfl) (fun K hK => ?_)
  refine s_guard rfl rfl ?_
  refine s_call (pre := []) (rem := _) rfl rfl tk (fun w N ho hl => Right_spec w N m A B T c d q f bs ho (ha.of hl) (hs.of hl) hla hls (hb.of hl) ht hf) rfl ?_
  rintro e L' ⟨rfl, rfl⟩
  try simp only [List.nil_append, List.cons_append, List.append_nil]
  refine s_done ?_
  refine hK _ _ (by refine rm_skip ?_; refine rm_skip ?_; refine rm_skip ?_; refine rm_yd rfl (by (first | exact y_as (y_gtr rfl rfl) (congrArg Value.bool (decide_eq_false e1)) | exact y_gtr rfl rfl)) ?_; refine rm_yd rfl (by exact y_add rfl rfl (by omega)) ?_; refine rm_yd rfl (by exact y_add rfl rfl (by omega)) ?_; refine rm_yd rfl (by exact y_lenS rfl rfl rfl) ?_; refine rm_yd rfl (by (first | exact y_ldN rfl rfl rfl (by rfl) | exact y_ld rfl rfl rfl (by rfl) | exact y_ldN rfl rfl rfl (by rfl) | exact y_ldK rfl rfl rfl rfl (by assumption) (by omega) | exact y_ldI rfl rfl rfl rfl (by assumption) (by omega) (by omega))) ?_; refine rm_yd rfl (by (first | exact y_fieldAddrB rfl rfl rfl rfl rfl rfl | exact y_fieldAddr rfl rfl rfl rfl rfl rfl)) ?_; exact rm_nil) ?_
  clear hK K
  refine d_takeG 14 rfl (by kernel_rfl) rfl rfl (by (first | exact y_as (y_neq rfl rfl) (congrArg Value.bool (decide_eq_false (fun h => h hR))) | exact y_neq rfl rfl | exact y_neqB rfl rfl rfl)) rfl ?_
  refine d_take 15 rfl (by kernel_rfl) (by (first | exact y_pickT rfl rfl | exact y_pickF rfl rfl)) rfl ?_
  refine d_done (by kernel_rfl) ?_
  have hct := hc (by omega)
  obtain ⟨r1, r2, r3, r4, r5, r6, r7⟩ := rightE_zero.1 hR
  have hnil := xs_nil hR
  refine s_condF2 rfl (by with_reducible rfl) ?_
  refine s_skip ?_
  refine s_seq ?_
  refine s_region ?_
  refine s_q (by (first | exact y_ldN rfl rfl rfl (by rfl) | exact y_ld rfl rfl rfl (by rfl) | exact y_ldN rfl rfl rfl (by rfl) | exact y_ldK rfl rfl rfl rfl (by assumption) (by omega) | exact y_ldI rfl rfl rfl rfl (by assumption) (by omega) (by omega))) rfl ?_
  refine s_alloc rfl rfl (fun b9 => ?_)
  first | (refine s_storeW rfl rfl rfl rfl rfl (by rfl) ?_) | (refine s_storeN rfl rfl rfl rfl rfl (by rfl) ?_)
  refine s_done ?_
  refine s_seq ?_
  refine s_region ?_
  refine s_q (by (first | exact y_fieldAddrB rfl rfl rfl rfl rfl rfl | exact y_fieldAddr rfl rfl rfl rfl rfl rfl)) rfl ?_
  first | (refine s_storeC rfl rfl rfl rfl (by rfl) ?_) | (refine s_store rfl rfl rfl rfl (by rfl) ?_)
  change J _ _ _ (cb b9 24 (mval { m with regs := 64 } A c B d) :: _) _
  refine s_done ?_
  refine s_seq ?_
  refine s_region ?_
  refine s_q (by (first | exact y_ldN rfl rfl rfl (by rfl) | exact y_ld rfl rfl rfl (by rfl) | exact y_ldN rfl rfl rfl (by rfl) | exact y_ldK rfl rfl rfl rfl (by assumption) (by omega) | exact y_ldI rfl rfl rfl rfl (by assumption) (by omega) (by omega))) rfl ?_
  refine s_alloc rfl rfl (fun b10 => ?_)
  first | (refine s_storeW rfl rfl rfl rfl rfl (by rfl) ?_) | (refine s_storeN rfl rfl rfl rfl rfl (by rfl) ?_)
  refine s_done ?_
  refine s_seq ?_
  refine s_region ?_
  refine s_q (by (first | exact y_fieldAddrB rfl rfl rfl rfl rfl rfl | exact y_fieldAddr rfl rfl rfl rfl rfl rfl)) rfl ?_
  first | (refine s_storeC rfl rfl rfl rfl (by rfl) ?_) | (refine s_store rfl rfl rfl rfl (by rfl) ?_)
  change J _ _ _ (cb b10 27 [.int .i64 400, .slice T bs.length q] :: _) _
  refine s_done ?_
  refine s_seq ?_
  refine s_region ?_
  refine s_q (by (first | exact y_fieldAddrB rfl rfl rfl rfl rfl rfl | exact y_fieldAddr rfl rfl rfl rfl rfl rfl)) rfl ?_
  refine s_q (by (first | exact y_ldN rfl rfl rfl (by rfl) | exact y_ld rfl rfl rfl (by rfl) | exact y_ldN rfl rfl rfl (by rfl) | exact y_ldK rfl rfl rfl rfl (by assumption) (by omega) | exact y_ldI rfl rfl rfl rfl (by assumption) (by omega) (by omega))) rfl ?_
  refine s_q (by (first | exact y_ldN rfl rfl rfl (by rfl) | exact y_ld rfl rfl rfl (by rfl) | exact y_ldN rfl rfl rfl (by rfl) | exact y_ldK rfl rfl rfl rfl (by assumption) (by omega) | exact y_ldI rfl rfl rfl rfl (by assumption) (by omega) (by omega))) rfl ?_
  refine s_bslice rfl rfl rfl rfl rfl rfl rfl rfl (fun nb1 => ?_)
  change J _ _ _ (cb nb1 30 ([i].flatMap encIns) :: _) _
  refine s_q (y_build rfl rfl rfl rfl) rfl ?_
  refine s_q (y_build rfl rfl rfl rfl) rfl ?_
  refine s_bslice rfl rfl rfl rfl rfl rfl rfl rfl (fun nb2 => ?_)
  change J _ _ _ (cb nb2 42 ([(⟨some ⟨nb1, 0, none⟩, 1, [i], 4, 0, 0, 0⟩ : BlkD)].flatMap encBlk) :: _) _
  refine s_q (y_build rfl rfl rfl rfl) rfl ?_
  refine s_alloc rfl rfl (fun b11 => ?_)
  first | (refine s_storeW rfl rfl rfl rfl rfl (by rfl) ?_) | (refine s_storeN rfl rfl rfl rfl rfl (by rfl) ?_)
  change J _ _ _ (cb b11 27 [.int .i64 f, .slice (some ⟨nb2, 0, none⟩) 1 1] :: _) _
  refine s_done ?_
  refine s_seq ?_
  refine s_region ?_
  refine s_q (by (first | exact y_ldN rfl rfl rfl (by rfl) | exact y_ld rfl rfl rfl (by rfl) | exact y_ldN rfl rfl rfl (by rfl) | exact y_ldK rfl rfl rfl rfl (by assumption) (by omega) | exact y_ldI rfl rfl rfl rfl (by assumption) (by omega) (by omega))) rfl ?_
  refine s_q (by (first | exact y_ldN rfl rfl rfl (by rfl) | exact y_ld rfl rfl rfl (by rfl) | exact y_ldN rfl rfl rfl (by rfl) | exact y_ldK rfl rfl rfl rfl (by assumption) (by omega) | exact y_ldI rfl rfl rfl rfl (by assumption) (by omega) (by omega))) rfl ?_
  have hok1 : TOK [(⟨some ⟨nb1, 0, none⟩, 1, [i], 4, 0, 0, 0⟩ : BlkD)] := by
    refine ⟨by simp, ?_, ?_, ?_⟩ <;> intro x hx <;> rw [List.mem_singleton.1 hx]
    · simp
    · intro j hj; rw [List.mem_singleton.1 hj]; exact hio
    · intro j hj; rw [List.mem_singleton.1 hj]; omega
  refine s_call (pre := []) (rem := _) rfl rfl tk (fun w N ho hl => Right_spec w N m A B (some ⟨nb2, 0, none⟩) c d 1 f [⟨some ⟨nb1, 0, none⟩, 1, [i], 4, 0, 0, 0⟩] ho (ha.of hl) (hs.of hl) hla hls ⟨keOfC (fun _ => rfl) hl (by repeat (first | exact List.mem_cons_self | refine List.mem_cons_of_mem _ ?_)), (fun b hb => by rw [List.mem_singleton.1 hb]; exact keOfC (fun _ => rfl) hl (by repeat (first | exact List.mem_cons_self | refine List.mem_cons_of_mem _ ?_))), (fun b hb j hj => by rw [List.mem_singleton.1 hb] at hj; rw [List.mem_singleton.1 hj]; exact hi.of hl)⟩ hok1 hf) rfl ?_
  rintro e L' ⟨rfl, rfl⟩
  try simp only [List.nil_append, List.cons_append, List.append_nil]
  rw [right_one r1 ⟨r4, r5⟩]
  refine s_q (y_assign rfl) rfl ?_
  refine s_done ?_
  refine s_seq ?_
  refine s_region ?_
  refine s_q (by (first | exact y_ldN rfl rfl rfl (by rfl) | exact y_ld rfl rfl rfl (by rfl) | exact y_ldN rfl rfl rfl (by rfl) | exact y_ldK rfl rfl rfl rfl (by assumption) (by omega) | exact y_ldI rfl rfl rfl rfl (by assumption) (by omega) (by omega))) rfl ?_
  refine s_call (pre := []) (rem := _) rfl rfl tk (fun w N ho hl => CopyTarget_spec w N T q f bs ho (hb.of hl) hnil (by omega) (fun b hb => by have := r6 b hb; omega)) rfl ?_
  rintro e L' ⟨v', ⟨G, g, l, hl1, hl2, rfl, rfl⟩, rfl⟩
  try simp only [List.nil_append, List.cons_append, List.append_nil]
  refine s_alloc rfl rfl (fun b13 => ?_)
  first | (refine s_storeW rfl rfl rfl rfl rfl (by rfl) ?_) | (refine s_storeN rfl rfl rfl rfl rfl (by rfl) ?_)
  change J _ _ _ (cb b13 27 [.int .i64 f, .slice G l.length g] :: _) _
  have hRl := right_like hl1 hl2 hR
  refine s_done ?_
  refine s_seq ?_
  refine s_region ?_
  refine s_q (y_move rfl) rfl ?_
  refine s_q (by (first | exact y_fieldAddrB rfl rfl rfl rfl rfl rfl | exact y_fieldAddr rfl rfl rfl rfl rfl rfl)) rfl ?_
  refine s_q (by (first | exact y_ld rfl rfl rfl (by rfl) | exact y_ldN rfl rfl rfl (by rfl) | exact y_ldK rfl rfl rfl rfl (by assumption) (by omega) | exact y_ldI rfl rfl rfl rfl (by assumption) (by omega) (by omega))) rfl ?_
  refine s_q (y_lenS rfl rfl rfl) rfl ?_
  refine s_call (pre := []) (rem := _) rfl rfl tk (fun w N ho hl => Pick_spec w N at_ l.length ho (by omega)) rfl ?_
  rintro e L' ⟨k, hk, rfl, rfl⟩
  try simp only [List.nil_append, List.cons_append, List.append_nil]
  refine s_q (y_assign rfl) rfl ?_
  refine s_done ?_
  refine s_seq ?_
  obtain ⟨b, hbk⟩ : ∃ b, l.getD k .no = b := ⟨_, rfl⟩
  have hbl := hl2 k (by omega)
  rw [hbk] at hbl
  have hcnt := (hct.2 k (by omega)).1
  rw [← hbl.ins.len] at hcnt
  have hfk : (l.flatMap encBlk)[k * 5 + 0]? = some (.slice b.A b.ins.length b.c) := flatAt (enc := encBlk) (fun _ => rfl) .no l k 0 _ hk (by rw [hbk]; rfl)
  refine J.perm (Tk.perm (K := [BlocksPost.bs' l])) ?_
  dsimp only [List.cons_append, List.nil_append]
  unfold BlocksPost.bs'
  refine J.focusA k (Sl 30 8 b.A b.ins.length b.c (b.ins.flatMap encIns)) hk (by rw [hbk]; rfl) ?_
  refine d_start ?_
  refine d_take 0 rfl (by kernel_rfl) (by (first | exact y_fieldAddrB rfl rfl rfl rfl rfl rfl | exact y_fieldAddr rfl rfl rfl rfl rfl rfl)) rfl ?_
  refine d_take 1 rfl (by kernel_rfl) (by (first | exact y_ldOF rfl rfl rfl hfk | exact y_ldN rfl rfl rfl (by rfl) | exact y_ld rfl rfl rfl (by rfl) | exact y_ldN rfl rfl rfl (by rfl) | exact y_ldK rfl rfl rfl rfl (by assumption) (by omega) | exact y_ldI rfl rfl rfl rfl (by assumption) (by omega) (by omega))) rfl ?_
  refine d_take 2 rfl (by kernel_rfl) (by exact y_move rfl) rfl ?_
  refine d_take 3 rfl (by kernel_rfl) (by (first | exact y_fieldAddrB rfl rfl rfl rfl rfl rfl | exact y_fieldAddr rfl rfl rfl rfl rfl rfl)) rfl ?_
  refine d_take 4 rfl (by kernel_rfl) (by (first | exact y_ldOF rfl rfl rfl hfk | exact y_ldN rfl rfl rfl (by rfl) | exact y_ld rfl rfl rfl (by rfl) | exact y_ldN rfl rfl rfl (by rfl) | exact y_ldK rfl rfl rfl rfl (by assumption) (by omega) | exact y_ldI rfl rfl rfl rfl (by assumption) (by omega) (by omega))) rfl ?_
  refine d_take 5 rfl (by kernel_rfl) (by exact y_move rfl) rfl ?_
  refine d_take 6 rfl (by kernel_rfl) (by (first | exact y_ixO rfl rfl rfl rfl rfl (by omega) (by omega) (by omega) | exact y_ixI rfl rfl rfl rfl rfl (by assumption) rfl (by omega) (by omega))) rfl ?_
  refine d_take 7 rfl (by kernel_rfl) (by (first | exact y_fieldAddrB rfl rfl rfl rfl rfl rfl | exact y_fieldAddr rfl rfl rfl rfl rfl rfl)) rfl ?_
  refine d_take 8 rfl (by kernel_rfl) (by (first | exact y_ldOF rfl rfl rfl hfk | exact y_ldN rfl rfl rfl (by rfl) | exact y_ld rfl rfl rfl (by rfl) | exact y_ldN rfl rfl rfl (by rfl) | exact y_ldK rfl rfl rfl rfl (by assumption) (by omega) | exact y_ldI rfl rfl rfl rfl (by assumption) (by omega) (by omega))) rfl ?_
  refine d_take 9 rfl (by kernel_rfl) (by (first | exact y_ldOF rfl rfl rfl hfk | exact y_ldN rfl rfl rfl (by rfl) | exact y_ld rfl rfl rfl (by rfl) | exact y_ldN rfl rfl rfl (by rfl) | exact y_ldK rfl rfl rfl rfl (by assumption) (by omega) | exact y_ldI rfl rfl rfl rfl (by assumption) (by omega) (by omega))) rfl ?_
  refine d_effM 10 [9, 8, 7, 6, 5, 4, 3, 2, 1, 0] [false, true, true, true, true, true, true, true, true, true] rfl (by kernel_rfl) rfl (by kernel_rfl) (fun K hK => ?_)
  refine s_bslice rfl rfl rfl rfl rfl rfl rfl rfl (fun nb3 => ?_)
  refine s_done ?_
  refine hK _ _ (by refine rm_skip ?_; refine rm_yd rfl (by (first | exact y_ldOF rfl rfl rfl hfk | exact y_ldN rfl rfl rfl (by rfl) | exact y_ld rfl rfl rfl (by rfl) | exact y_ldN rfl rfl rfl (by rfl) | exact y_ldK rfl rfl rfl rfl (by assumption) (by omega) | exact y_ldI rfl rfl rfl rfl (by assumption) (by omega) (by omega))) ?_; refine rm_yd rfl (by (first | exact y_fieldAddrB rfl rfl rfl rfl rfl rfl | exact y_fieldAddr rfl rfl rfl rfl rfl rfl)) ?_; refine rm_yd rfl (by (first | exact y_ixO rfl rfl rfl rfl rfl (by omega) (by omega) (by omega) | exact y_ixI rfl rfl rfl rfl rfl (by assumption) rfl (by omega) (by omega))) ?_; refine rm_yd rfl (by exact y_move rfl) ?_; refine rm_yd rfl (by (first | exact y_ldOF rfl rfl rfl hfk | exact y_ldN rfl rfl rfl (by rfl) | exact y_ld rfl rfl rfl (by rfl) | exact y_ldN rfl rfl rfl (by rfl) | exact y_ldK rfl rfl rfl rfl (by assumption) (by omega) | exact y_ldI rfl rfl rfl rfl (by assumption) (by omega) (by omega))) ?_; refine rm_yd rfl (by (first | exact y_fieldAddrB rfl rfl rfl rfl rfl rfl | exact y_fieldAddr rfl rfl rfl rfl rfl rfl)) ?_; refine rm_yd rfl (by exact y_move rfl) ?_; refine rm_yd rfl (by (first | exact y_ldOF rfl rfl rfl hfk | exact y_ldN rfl rfl rfl (by rfl) | exact y_ld rfl rfl rfl (by rfl) | exact y_ldN rfl rfl rfl (by rfl) | exact y_ldK rfl rfl rfl rfl (by assumption) (by omega) | exact y_ldI rfl rfl rfl rfl (by assumption) (by omega) (by omega))) ?_; refine rm_yd rfl (by (first | exact y_fieldAddrB rfl rfl rfl rfl rfl rfl | exact y_fieldAddr rfl rfl rfl rfl rfl rfl)) ?_; exact rm_nil) ?_
  clear hK K
  refine d_effM 11 [8, 7, 6, 5, 4, 3, 2, 1, 0] [false, true, true, true, true, true, true, true, true] rfl (by kernel_rfl) rfl (by kernel_rfl) (fun K hK => ?_)
  refine s_append rfl rfl rfl rfl rfl rfl rfl rfl rfl (by omega) rfl (fun A' c' => ?_)
  refine s_done ?_
  refine hK _ _ (by refine rm_skip ?_; refine rm_yd rfl (by (first | exact y_fieldAddrB rfl rfl rfl rfl rfl rfl | exact y_fieldAddr rfl rfl rfl rfl rfl rfl)) ?_; refine rm_yd rfl (by (first | exact y_ixO rfl rfl rfl rfl rfl (by omega) (by omega) (by omega) | exact y_ixI rfl rfl rfl rfl rfl (by assumption) rfl (by omega) (by omega))) ?_; refine rm_yd rfl (by exact y_move rfl) ?_; refine rm_yd rfl (by (first | exact y_ldOF rfl rfl rfl hfk | exact y_ldN rfl rfl rfl (by rfl) | exact y_ld rfl rfl rfl (by rfl) | exact y_ldN rfl rfl rfl (by rfl) | exact y_ldK rfl rfl rfl rfl (by assumption) (by omega) | exact y_ldI rfl rfl rfl rfl (by assumption) (by omega) (by omega))) ?_; refine rm_yd rfl (by (first | exact y_fieldAddrB rfl rfl rfl rfl rfl rfl | exact y_fieldAddr rfl rfl rfl rfl rfl rfl)) ?_; refine rm_yd rfl (by exact y_move rfl) ?_; refine rm_yd rfl (by (first | exact y_ldOF rfl rfl rfl hfk | exact y_ldN rfl rfl rfl (by rfl) | exact y_ld rfl rfl rfl (by rfl) | exact y_ldN rfl rfl rfl (by rfl) | exact y_ldK rfl rfl rfl rfl (by assumption) (by omega) | exact y_ldI rfl rfl rfl rfl (by assumption) (by omega) (by omega))) ?_; refine rm_yd rfl (by (first | exact y_fieldAddrB rfl rfl rfl rfl rfl rfl | exact y_fieldAddr rfl rfl rfl rfl rfl rfl)) ?_; exact rm_nil) ?_
  clear hK K
  refine d_take 12 rfl (by kernel_rfl) (by (first | exact y_ixO rfl rfl rfl rfl rfl (by omega) (by omega) (by omega) | exact y_ixI rfl rfl rfl rfl rfl (by assumption) rfl (by omega) (by omega))) rfl ?_
  refine d_take 13 rfl (by kernel_rfl) (by (first | exact y_fieldAddrB rfl rfl rfl rfl rfl rfl | exact y_fieldAddr rfl rfl rfl rfl rfl rfl)) rfl ?_
  refine d_effM 14 [13, 12, 7, 6, 5, 4, 3, 2, 1, 0] [false, true, false, false, false, false, false, false, false, false] rfl (by kernel_rfl) rfl (by kernel_rfl) (fun K hK => ?_)
  refine s_storeSlF (q := (k : Int)) rfl rfl rfl rfl (by rw [flat_length (enc := encBlk) (sz := 5) (fun _ => rfl), Int.toNat_natCast]; omega) ?_
  refine s_done ?_
  refine hK _ _ (by refine rm_skip ?_; refine rm_yd rfl (by (first | exact y_ixO rfl rfl rfl rfl rfl (by omega) (by omega) (by omega) | exact y_ixI rfl rfl rfl rfl rfl (by assumption) rfl (by omega) (by omega))) ?_; refine rm_skip ?_; refine rm_skip ?_; refine rm_skip ?_; refine rm_skip ?_; refine rm_skip ?_; refine rm_skip ?_; refine rm_skip ?_; refine rm_skip ?_; exact rm_nil) ?_
  clear hK K
  refine d_done (by kernel_rfl) ?_
  change J _ _ _ (Sl 42 5 G l.length g ((l.flatMap encBlk).set ((k : Int).toNat * 5 + 0) (.slice A' (b.ins.length + 1) c')) :: Sl 30 8 A' (b.ins.length + 1) c' (b.ins.flatMap encIns ++ encIns i) :: _) _
  have el : b.ins.length + 1 = (b.ins ++ [i]).length := by simp
  rw [el, show b.ins.flatMap encIns ++ encIns i = (b.ins ++ [i]).flatMap encIns by simp, Int.toNat_natCast]
  obtain ⟨b2, hb2⟩ : ∃ b2 : BlkD, b2 = ⟨A', c', b.ins ++ [i], b.kind, b.a, b.t0, b.t1⟩ := ⟨_, rfl⟩
  rw [flatSet (enc := encBlk) (sz := 5) (fun _ => rfl) .no b2 0 _ (by omega) l k hk (by rw [hbk, hb2]; rfl)]
  refine J.perm (Tk.perm (K := [Sl 30 8 A' (b.ins ++ [i]).length c' ((b.ins ++ [i]).flatMap encIns), bx (fun j => insRow (l.getD j .no)) l.length k])) ?_
  dsimp only [List.cons_append, List.nil_append]
  refine J.unfocus (fun j => insRow ((l.set k b2).getD j .no)) hk (by (try dsimp only); rw [getD_set_blk hk, if_pos rfl, hb2]; rfl) (fun j _ hj => by (try dsimp only); rw [getD_set_blk hk, if_neg (fun x => hj x.symm)]) ?_
  have hsn : rightE m f (l.set k b2) = insE m.regs m.args.length f i := right_snoc hRl hk (by rw [hbk, hb2]) (by rw [hbk, hb2]; exact ⟨rfl, rfl, rfl, rfl⟩) (by rw [hbk]; omega)
  obtain ⟨htl, hnl⟩ := ok_like hl1 hl2 ht hnil
  have hbm : b ∈ l := by rw [← hbk]; exact getD_mem .no hk
  have hmv : ∀ x ∈ l.set k b2, x = b2 ∨ x ∈ l := fun x hx => (List.mem_or_eq_of_mem_set hx).symm
  have htv : TOK (l.set k b2) := by
    refine ⟨by rw [List.length_set]; exact htl.len, fun x hx => ?_, fun x hx j hj => ?_, fun x hx j hj => ?_⟩
    · rcases hmv x hx with rfl | h
      · rw [hb2]; simp; omega
      · exact htl.ins x h
    · rcases hmv x hx with rfl | h
      · rw [hb2] at hj
        rcases List.mem_append.1 hj with h | h
        · exact htl.ok b hbm j h
        · rw [List.mem_singleton.1 h]; exact hio
      · exact htl.ok x h j hj
    · rcases hmv x hx with rfl | h
      · rw [hb2] at hj
        rcases List.mem_append.1 hj with h | h
        · exact htl.args b hbm j h
        · rw [List.mem_singleton.1 h]; omega
      · exact htl.args x h j hj
  have hargs : ∀ (w' : World) (N' : Nat → Prop), KI w' N' i.A i.xs → ∀ x ∈ l.set k b2, ∀ j ∈ x.ins, KI w' N' j.A j.xs := fun w' N' hi' x hx j hj => by
    have nil : ∀ j : InsD, j.xs = [] → KI w' N' j.A j.xs := fun j e w hw q hq => by rw [e] at hq; exact absurd hq (Nat.not_lt_zero q)
    rcases hmv x hx with rfl | h
    · rw [hb2] at hj
      rcases List.mem_append.1 hj with h | h
      · exact nil j (hnl b hbm j h)
      · rw [List.mem_singleton.1 h]; exact hi'
    · exact nil j (hnl x h j hj)
  obtain ⟨lv, hlv⟩ : ∃ lv, l.set k b2 = lv := ⟨_, rfl⟩
  have hll : lv.length = l.length := by rw [← hlv, List.length_set]
  rw [hlv] at hsn htv hargs ⊢
  rw [← hll]
  have w1 := right_wider 64 (.inr rfl) (Int.le_refl f) r5 hR
  have w2 := right_wider m.regs (.inl rfl) r5 (Int.le_refl 400) hR
  have w3 := right_wider 64 (.inr rfl) r5 (Int.le_refl 400) hR
  refine s_seq ?_
  refine s_region ?_
  refine s_q (by (first | exact y_ldN rfl rfl rfl (by rfl) | exact y_ld rfl rfl rfl (by rfl) | exact y_ldN rfl rfl rfl (by rfl) | exact y_ldK rfl rfl rfl rfl (by assumption) (by omega) | exact y_ldI rfl rfl rfl rfl (by assumption) (by omega) (by omega))) rfl ?_
  refine s_q (by (first | exact y_ldN rfl rfl rfl (by rfl) | exact y_ld rfl rfl rfl (by rfl) | exact y_ldN rfl rfl rfl (by rfl) | exact y_ldK rfl rfl rfl rfl (by assumption) (by omega) | exact y_ldI rfl rfl rfl rfl (by assumption) (by omega) (by omega))) rfl ?_
  refine s_call (pre := []) (rem := _) rfl rfl tk (fun w N ho hl => Right_spec w N { m with regs := 64 } A B T c d q f bs ho (ha.of hl) (hs.of hl) hla hls (hb.of hl) ht hf) rfl ?_
  rintro e L' ⟨rfl, rfl⟩
  try simp only [List.nil_append, List.cons_append, List.append_nil]
  rw [w1]
  refine s_q (by (first | exact y_as (y_eql (m := 0) rfl rfl) (congrArg Value.bool (decide_eq_true rfl)) | exact y_eql rfl rfl | exact y_eqlB rfl rfl rfl)) rfl ?_
  refine s_q (y_move rfl) rfl ?_
  refine s_guard2 rfl rfl (by with_reducible rfl) ?_
  refine s_q (by (first | exact y_ldN rfl rfl rfl (by rfl) | exact y_ld rfl rfl rfl (by rfl) | exact y_ldN rfl rfl rfl (by rfl) | exact y_ldK rfl rfl rfl rfl (by assumption) (by omega) | exact y_ldI rfl rfl rfl rfl (by assumption) (by omega) (by omega))) rfl ?_
  refine s_guard2 rfl rfl (by with_reducible rfl) ?_
  refine s_q (by (first | exact y_ldN rfl rfl rfl (by rfl) | exact y_ld rfl rfl rfl (by rfl) | exact y_ldN rfl rfl rfl (by rfl) | exact y_ldK rfl rfl rfl rfl (by assumption) (by omega) | exact y_ldI rfl rfl rfl rfl (by assumption) (by omega) (by omega))) rfl ?_
  refine s_guard2 rfl rfl (by with_reducible rfl) ?_
  refine s_call (pre := []) (rem := _) rfl rfl tk (fun w N ho hl => Right_spec w N m A B T c d q 400 bs ho (ha.of hl) (hs.of hl) hla hls (hb.of hl) ht (by unfold i64; decide)) rfl ?_
  rintro e L' ⟨rfl, rfl⟩
  try simp only [List.nil_append, List.cons_append, List.append_nil]
  rw [show rightE m 400 bs = 0 from w2]
  refine s_guard2 rfl rfl (by with_reducible rfl) ?_
  refine s_q (by (first | exact y_as (y_eql (m := 0) rfl rfl) (congrArg Value.bool (decide_eq_true rfl)) | exact y_eql rfl rfl | exact y_eqlB rfl rfl rfl)) rfl ?_
  refine s_q (by (first | exact y_pickT rfl rfl | exact y_pickF rfl rfl)) rfl ?_
  refine s_q (y_move rfl) rfl ?_
  refine s_guard2 rfl rfl (by with_reducible rfl) ?_
  refine s_q (by (first | exact y_ldN rfl rfl rfl (by rfl) | exact y_ld rfl rfl rfl (by rfl) | exact y_ldN rfl rfl rfl (by rfl) | exact y_ldK rfl rfl rfl rfl (by assumption) (by omega) | exact y_ldI rfl rfl rfl rfl (by assumption) (by omega) (by omega))) rfl ?_
  refine s_guard2 rfl rfl (by with_reducible rfl) ?_
  refine s_q (by (first | exact y_ldN rfl rfl rfl (by rfl) | exact y_ld rfl rfl rfl (by rfl) | exact y_ldN rfl rfl rfl (by rfl) | exact y_ldK rfl rfl rfl rfl (by assumption) (by omega) | exact y_ldI rfl rfl rfl rfl (by assumption) (by omega) (by omega))) rfl ?_
  refine s_guard2 rfl rfl (by with_reducible rfl) ?_
  refine s_call (pre := []) (rem := _) rfl rfl tk (fun w N ho hl => Right_spec w N { m with regs := 64 } A B T c d q 400 bs ho (ha.of hl) (hs.of hl) hla hls (hb.of hl) ht (by unfold i64; decide)) rfl ?_
  rintro e L' ⟨rfl, rfl⟩
  try simp only [List.nil_append, List.cons_append, List.append_nil]
  rw [w3]
  refine s_guard2 rfl rfl (by with_reducible rfl) ?_
  refine s_q (by (first | exact y_as (y_eql (m := 0) rfl rfl) (congrArg Value.bool (decide_eq_true rfl)) | exact y_eql rfl rfl | exact y_eqlB rfl rfl rfl)) rfl ?_
  refine s_q (by (first | exact y_pickT rfl rfl | exact y_pickF rfl rfl)) rfl ?_
  refine s_q (y_move rfl) rfl ?_
  refine s_guard2 rfl rfl (by with_reducible rfl) ?_
  refine s_q (by (first | exact y_ldN rfl rfl rfl (by rfl) | exact y_ld rfl rfl rfl (by rfl) | exact y_ldN rfl rfl rfl (by rfl) | exact y_ldK rfl rfl rfl rfl (by assumption) (by omega) | exact y_ldI rfl rfl rfl rfl (by assumption) (by omega) (by omega))) rfl ?_
  refine s_guard2 rfl rfl (by with_reducible rfl) ?_
  refine s_q (by (first | exact y_ldN rfl rfl rfl (by rfl) | exact y_ld rfl rfl rfl (by rfl) | exact y_ldN rfl rfl rfl (by rfl) | exact y_ldK rfl rfl rfl rfl (by assumption) (by omega) | exact y_ldI rfl rfl rfl rfl (by assumption) (by omega) (by omega))) rfl ?_
  refine s_guard2 rfl rfl (by with_reducible rfl) ?_
  refine s_call (pre := []) (rem := _) rfl rfl tk (fun w N ho hl => Right_spec w N m A B G c d g f lv ho (ha.of hl) (hs.of hl) hla hls ⟨keOfS (fun _ => rfl) (by omega) hl (by repeat (first | exact List.mem_cons_self | refine List.mem_cons_of_mem _ ?_)), (fun x hx => by obtain ⟨j, hj, rfl⟩ := List.mem_iff_getElem.1 hx; exact keOfBs (f := fun j => insRow (lv.getD j .no)) (n := lv.length) (j := j) (fun _ => rfl) (by omega) hl (by repeat (first | exact List.mem_cons_self | refine List.mem_cons_of_mem _ ?_)) hj (by (try dsimp only); rw [List.getD_eq_getElem?_getD, List.getElem?_eq_getElem hj]; rfl)), hargs _ _ (hi.of hl)⟩ htv hf) rfl ?_
  rintro e L' ⟨rfl, rfl⟩
  try simp only [List.nil_append, List.cons_append, List.append_nil]
  rw [hsn]
  refine s_guard2 rfl rfl (by with_reducible rfl) ?_
  refine s_q (y_move rfl) rfl ?_
  refine s_guard2 rfl rfl (by with_reducible rfl) ?_
  refine s_q (by (first | exact y_as (y_eql (m := insE m.regs m.args.length f i) rfl rfl) (congrArg Value.bool (decide_eq_true rfl)) | exact y_eql rfl rfl | exact y_eqlB rfl rfl rfl)) rfl ?_
  refine s_q (by (first | exact y_pickT rfl rfl | exact y_pickF rfl rfl)) rfl ?_
  refine s_q (y_assign rfl) rfl ?_
  refine s_done ?_
  exact s_return ⟨rfl, rfl⟩ (res_tmp Try.results3 rfl)
end Go.Proofs.Ytgpebcfeeagoaaa
