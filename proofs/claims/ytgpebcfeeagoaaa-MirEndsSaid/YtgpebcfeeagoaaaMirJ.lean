/- Layer 6 (mir): copies of blocks and of targets whose instructions have no rows of arguments. -/
import Derived.Test.YtgpebcfeeagoaaaMirI
import Derived.Test.YtgpebcfeeagoaaaEEb
set_option linter.unusedVariables false
set_option linter.unusedSimpArgs false
namespace Go.Proofs.Ytgpebcfeeagoaaa
open Go Go.E
set_option maxRecDepth 4000
set_option maxHeartbeats 1000000
structure BlkD.like (b b' : BlkD) : Prop where
  ins : Alike b.ins b'.ins
  kind : b.kind = b'.kind
  a : b.a = b'.a
  t0 : b.t0 = b'.t0
  t1 : b.t1 = b'.t1
/-- The instructions of a block that is owned. -/
def insRow (b : BlkD) : HP := Sl 30 8 b.A b.ins.length b.c (b.ins.flatMap encIns)
theorem CopyBlock_spec (w : World) (N : Nat → Prop) (b : BlkD) (ho : Owns w [] N) (hk : KE 8 encIns .no w N b.A b.ins) (hx : ∀ i ∈ b.ins, i.xs = []) (hlen : b.ins.length < 1000000) :
    Ret Try.prog 62 [.agg (encBlk b).toArray] w N fun v L => ∃ b' : BlkD, b'.like b ∧ v = .agg (encBlk b').toArray ∧ L = [insRow b'] := by
  refine ret_of_J cx Try.func62 rfl (Nat.le_of_ble_eq_true rfl) ho ?_
  refine s_seq ?_
  refine s_region ?_
  first | (refine s_box1 rfl rfl rfl (fun b1 => ?_)) | (refine s_boxA rfl rfl (fun b1 => ?_))
  change J _ _ _ (cb b1 42 (encBlk b) :: _) _
  unfold encBlk
  refine s_alloc rfl rfl (fun b2 => ?_)
  refine s_done ?_
  refine s_seq ?_
  refine s_region ?_
  refine s_q (by (first | exact y_fieldAddrB rfl rfl rfl rfl rfl rfl | exact y_fieldAddr rfl rfl rfl rfl rfl rfl)) rfl ?_
  refine s_q (by (first | exact y_ld rfl rfl rfl (by rfl) | exact y_ldN rfl rfl rfl (by rfl) | exact y_ldK rfl rfl rfl rfl (by assumption) (by omega) | exact y_ldI rfl rfl rfl rfl (by assumption) (by omega) (by omega))) rfl ?_
  refine s_call (pre := []) (rem := _) rfl rfl tk (fun w N ho hl => CopyRow_spec w N b.A b.c b.ins ho (hk.of hl) hx hlen) rfl ?_
  rintro e L' ⟨G, g, l, hal, rfl, rfl⟩
  try simp only [List.nil_append, List.cons_append, List.append_nil]
  refine s_q (by (first | exact y_fieldAddrB rfl rfl rfl rfl rfl rfl | exact y_fieldAddr rfl rfl rfl rfl rfl rfl)) rfl ?_
  first | (refine s_storeC rfl rfl rfl rfl (by rfl) ?_) | (refine s_store rfl rfl rfl rfl (by rfl) ?_)
  refine s_done ?_
  refine s_seq ?_
  refine s_region ?_
  refine s_q (by (first | exact y_ldN rfl rfl rfl (by rfl) | exact y_ld rfl rfl rfl (by rfl) | exact y_ldN rfl rfl rfl (by rfl) | exact y_ldK rfl rfl rfl rfl (by assumption) (by omega) | exact y_ldI rfl rfl rfl rfl (by assumption) (by omega) (by omega))) rfl ?_
  first | (refine s_storeW rfl rfl rfl rfl rfl (by rfl) ?_) | (refine s_storeN rfl rfl rfl rfl rfl (by rfl) ?_)
  refine s_done ?_
  refine J.perm (Tk.perm (K := [Sl 30 8 G l.length g (l.flatMap encIns)])) ?_
  dsimp only [List.cons_append, List.nil_append]
  change J _ _ _ (insRow ⟨G, g, l, b.kind, b.a, b.t0, b.t1⟩ :: _) _
  exact s_return (R := fun v L => ∃ b' : BlkD, b'.like b ∧ v = .agg (encBlk b').toArray ∧ L = [insRow b']) ⟨⟨G, g, l, b.kind, b.a, b.t0, b.t1⟩, ⟨hal, rfl, rfl, rfl, rfl⟩, rfl, rfl⟩ (res_cellN Try.results62 rfl rfl rfl rfl)
def BlocksPost (bs : List BlkD) (v : Value) (L : List HP) : Prop := ∃ (T : Option Addr) (t : Nat) (l : List BlkD), l.length = bs.length ∧ (∀ k, k < bs.length → (l.getD k .no).like (bs.getD k .no)) ∧ v = .slice T l.length t ∧ L = [Sl 42 5 T l.length t (l.flatMap encBlk), bs' l]
where bs' (l : List BlkD) : HP := Go.E.bs (fun k => insRow (l.getD k .no)) l.length
theorem CopyBlocks_spec (w : World) (N : Nat → Prop) (T : Option Addr) (q : Nat) (bs : List BlkD) (ho : Owns w [] N) (hb : KB w N T bs) (hx : ∀ b ∈ bs, ∀ i ∈ b.ins, i.xs = []) (hlen : bs.length < 1000000) (hil : ∀ b ∈ bs, b.ins.length < 1000000) :
    Ret Try.prog 38 [.slice T bs.length q] w N (BlocksPost bs) := by
  refine ret_of_J cx Try.func38 rfl (Nat.le_of_ble_eq_true rfl) ho ?_
  refine s_seq ?_
  refine s_region ?_
  refine s_q (y_assign rfl) rfl ?_
  refine s_done ?_
  refine s_seq ?_
  refine s_region ?_
  refine s_q (y_assign rfl) rfl ?_
  refine s_done ?_
  refine s_seq ?_
  refine s_seq ?_
  refine s_region ?_
  refine s_q (y_assign rfl) rfl ?_
  refine s_done ?_
  refine s_block ?_
  refine J.emp (B := Go.E.bs (fun k => insRow (([] : List BlkD).getD k .no)) 0) rfl ?_
  refine J.emp (B := Sl 42 5 none 0 0 (([] : List BlkD).flatMap encBlk)) (Sl.ofNil _ _) ?_
  refine s_loopV (σ := Nat × Option Addr × Nat × List BlkD) (fun s => [(4, .int .i64 s.1), (3, .slice s.2.1 s.1 s.2.2.1)]) (fun s => [Sl 42 5 s.2.1 s.1 s.2.2.1 (s.2.2.2.flatMap encBlk), Go.E.bs (fun j => insRow (s.2.2.2.getD j .no)) s.1]) (fun s => (s.1 ≤ bs.length) ∧ (s.2.2.2.length = s.1) ∧ (∀ j, j < s.1 → (s.2.2.2.getD j .no).like (bs.getD j .no))) (fun s => bs.length - s.1) (0, none, 0, []) [(0, _)] ⟨rfl, trivial⟩ ⟨rfl, rfl, trivial⟩ tk ⟨Nat.zero_le _, rfl, fun j hj => absurd hj (Nat.not_lt_zero j)⟩ ?_
  rintro ⟨k, G, g, l⟩ ⟨hk2, hl, hal⟩
  try dsimp only [List.cons_append, List.nil_append, List.append_nil] at hk2 hl hal ⊢
  refine s_seq ?_
  refine s_seq ?_
  refine s_region ?_
  refine s_q (y_move rfl) rfl ?_
  refine s_q (y_move rfl) rfl ?_
  refine s_q (y_lenS rfl rfl rfl) rfl ?_
  refine s_q (y_lss rfl rfl) rfl ?_
  refine s_done ?_
  refine s_cond rfl (fun h => ?_) (fun h => ?_)
  · have hkl : k < bs.length := by omega
    have hmem := getD_mem BlkD.no hkl
    refine s_skip ?_
    refine s_seq ?_
    refine s_block ?_
    refine s_seq ?_
    refine s_region ?_
    refine s_q (y_move rfl) rfl ?_
    refine s_q (y_move rfl) rfl ?_
    refine s_q (by (first | exact y_ixE hb.blk rfl rfl rfl rfl rfl rfl (by omega) (by omega) | exact y_ixI rfl rfl rfl rfl rfl (by assumption) rfl (by omega) (by omega))) rfl ?_
    refine s_q (by (first | exact y_ldE hb.blk rfl rfl rfl (by omega) rfl | exact y_ld rfl rfl rfl (by rfl) | exact y_ldN rfl rfl rfl (by rfl) | exact y_ldK rfl rfl rfl rfl (by assumption) (by omega) | exact y_ldI rfl rfl rfl rfl (by assumption) (by omega) (by omega))) rfl ?_
    refine s_call (pre := []) (rem := _) rfl rfl tk (fun w N ho hl => CopyBlock_spec w N _ ho ((hb.ins _ hmem).of hl) (hx _ hmem) (hil _ hmem)) rfl ?_
    rintro e L' ⟨b', hb', rfl, rfl⟩
    try simp only [List.nil_append, List.cons_append, List.append_nil]
    refine s_alloc rfl rfl (fun b => ?_)
    first | (refine s_storeW rfl rfl rfl rfl rfl (by rfl) ?_) | (refine s_storeN rfl rfl rfl rfl rfl (by rfl) ?_)
    change J _ _ _ (cb b 42 (encBlk b') :: _) _
    refine s_done ?_
    refine s_region ?_
    refine s_q (y_move rfl) rfl ?_
    refine s_q (by (first | exact y_ldN rfl rfl rfl (by rfl) | exact y_ld rfl rfl rfl (by rfl) | exact y_ldN rfl rfl rfl (by rfl) | exact y_ldK rfl rfl rfl rfl (by assumption) (by omega) | exact y_ldI rfl rfl rfl rfl (by assumption) (by omega) (by omega))) rfl ?_
    refine s_bslice rfl rfl rfl rfl rfl rfl rfl rfl (fun nb => ?_)
    refine s_append rfl rfl rfl rfl rfl rfl rfl rfl rfl (by omega) rfl (fun G' g' => ?_)
    change J _ _ _ (Sl 42 5 G' (k + 1) g' (l.flatMap encBlk ++ encBlk b') :: _) _
    rw [show l.flatMap encBlk ++ encBlk b' = (l ++ [b']).flatMap encBlk by simp]
    refine J.perm (Tk.perm (K := [insRow b', Go.E.bs (fun j => insRow (l.getD j .no)) k])) ?_
    dsimp only [List.cons_append, List.nil_append]
    refine J.bsSnoc (fun j => insRow ((l ++ [b']).getD j .no)) ?_ (fun i hi => ?_) ?_
    · rw [List.getD_eq_getElem?_getD, List.getElem?_append_right (by omega), hl]; simp
    · rw [List.getD_eq_getElem?_getD, List.getD_eq_getElem?_getD, List.getElem?_append_left (by omega)]
    refine s_q (y_assign rfl) rfl ?_
    refine s_done ?_
    refine s_endb ?_
    refine s_region ?_
    refine s_q (y_move rfl) rfl ?_
    refine s_q (y_add rfl rfl (by omega)) rfl ?_
    refine s_q (y_assign rfl) rfl ?_
    refine s_done ?_
    refine s_inv (k + 1, G', g', l ++ [b']) ⟨(by (try dsimp only); omega), by simp [hl], fun j hj => ?_⟩ (by (try dsimp only); omega) ⟨rfl, rfl, rfl, trivial⟩ tk
    dsimp only at hj ⊢
    by_cases e : j = k
    · subst e
      rw [show (l ++ [b']).getD j BlkD.no = b' by rw [List.getD_eq_getElem?_getD, List.getElem?_append_right (by omega), hl]; simp]
      exact hb'
    · rw [show (l ++ [b']).getD j BlkD.no = l.getD j .no by rw [List.getD_eq_getElem?_getD, List.getD_eq_getElem?_getD, List.getElem?_append_left (by omega)]]
      exact hal j (by omega)
  · have hkl : k = bs.length := by omega
    subst hkl
    refine s_exit rfl ?_
    refine s_seq ?_
    refine s_region ?_
    refine s_q (y_move rfl) rfl ?_
    refine s_q (y_assign rfl) rfl ?_
    refine s_done ?_
    exact s_return (R := BlocksPost bs) ⟨G, g, l, hl, hal, by rw [hl], by rw [BlocksPost.bs', hl]⟩ (res_tmp Try.results38 rfl)
theorem CopyTarget_spec (w : World) (N : Nat → Prop) (T : Option Addr) (q : Nat) (f : Int) (bs : List BlkD) (ho : Owns w [] N) (hb : KB w N T bs) (hx : ∀ b ∈ bs, ∀ i ∈ b.ins, i.xs = []) (hlen : bs.length < 1000000) (hil : ∀ b ∈ bs, b.ins.length < 1000000) :
    Ret Try.prog 12 [.agg #[.int .i64 f, .slice T bs.length q]] w N fun v L => ∃ v', BlocksPost bs v' L ∧ v = .agg #[.int .i64 f, v'] := by
  refine ret_of_J cx Try.func12 rfl (Nat.le_of_ble_eq_true rfl) ho ?_
  refine s_seq ?_
  refine s_region ?_
  first | (refine s_box1 rfl rfl rfl (fun b1 => ?_)) | (refine s_boxA rfl rfl (fun b1 => ?_))
  change J _ _ _ (cb b1 27 [.int .i64 f, .slice T bs.length q] :: _) _
  refine s_alloc rfl rfl (fun b2 => ?_)
  refine s_done ?_
  refine s_seq ?_
  refine s_region ?_
  refine s_q (by (first | exact y_fieldAddrB rfl rfl rfl rfl rfl rfl | exact y_fieldAddr rfl rfl rfl rfl rfl rfl)) rfl ?_
  refine s_q (by (first | exact y_ld rfl rfl rfl (by rfl) | exact y_ldN rfl rfl rfl (by rfl) | exact y_ldK rfl rfl rfl rfl (by assumption) (by omega) | exact y_ldI rfl rfl rfl rfl (by assumption) (by omega) (by omega))) rfl ?_
  refine s_call (pre := []) (rem := _) rfl rfl tk (fun w N ho hl => CopyBlocks_spec w N T q bs ho (hb.of hl) hx hlen hil) rfl ?_
  rintro e L' ⟨G, g, l, hl1, hl2, rfl, rfl⟩
  try simp only [List.nil_append, List.cons_append, List.append_nil]
  refine s_q (by (first | exact y_fieldAddrB rfl rfl rfl rfl rfl rfl | exact y_fieldAddr rfl rfl rfl rfl rfl rfl)) rfl ?_
  first | (refine s_storeC rfl rfl rfl rfl (by rfl) ?_) | (refine s_store rfl rfl rfl rfl (by rfl) ?_)
  refine s_done ?_
  refine s_seq ?_
  refine s_region ?_
  refine s_q (by (first | exact y_ldN rfl rfl rfl (by rfl) | exact y_ld rfl rfl rfl (by rfl) | exact y_ldN rfl rfl rfl (by rfl) | exact y_ldK rfl rfl rfl rfl (by assumption) (by omega) | exact y_ldI rfl rfl rfl rfl (by assumption) (by omega) (by omega))) rfl ?_
  first | (refine s_storeW rfl rfl rfl rfl rfl (by rfl) ?_) | (refine s_storeN rfl rfl rfl rfl rfl (by rfl) ?_)
  refine s_done ?_
  exact s_return (R := fun v L => ∃ v', BlocksPost bs v' L ∧ v = .agg #[.int .i64 f, v']) ⟨_, ⟨G, g, l, hl1, hl2, rfl, rfl⟩, rfl⟩ (res_cellN Try.results12 rfl rfl rfl rfl)
end Go.Proofs.Ytgpebcfeeagoaaa
