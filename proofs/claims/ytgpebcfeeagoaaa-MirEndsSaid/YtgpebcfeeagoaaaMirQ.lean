/- Layer 6 (mir): targets lent, with marks behind every list. -/
import Derived.Test.YtgpebcfeeagoaaaMirKL
import Derived.Test.YtgpebcfeeagoaaaMirJ
import Derived.Test.YtgpebcfeeagoaaaEEb
set_option linter.unusedVariables false
set_option linter.unusedSimpArgs false
namespace Go.Proofs.Ytgpebcfeeagoaaa
open Go Go.E
set_option maxRecDepth 4000
set_option maxHeartbeats 1000000
def mkI (i : Nat) : InsD := ⟨0, 0, 0, 0, 8000024 + (i : Int), 0, none, 0, [], 0⟩
def mkB (i : Nat) : BlkD := ⟨none, 0, [], 0, 8000024 + (i : Int), 0, 0⟩
def marksI : List InsD := (List.range 12).map mkI
def marksB : List BlkD := (List.range 12).map mkB
def argsHP (i : InsD) : HP := Sl 3 1 i.A (i.xs.length + 12) i.c (ints (i.xs ++ marks))
theorem LentIns_spec (w : World) (N : Nat → Prop) (i : InsD) (ho : Owns w [] N) (hk : KI w N i.A i.xs) (hlen : i.xs.length < 1000000) :
    Ret Try.prog 79 [.agg (encIns i).toArray] w N fun v L => ∃ i' : InsD, i'.core = i.core ∧ v = .agg (encIns i').toArray ∧ L = [argsHP i'] := by
  obtain ⟨op, dst, a, b, imm, callee, A, c, xs, many⟩ := i
  dsimp only at hk hlen
  refine ret_of_J cx Try.func79 rfl (Nat.le_of_ble_eq_true rfl) ho ?_
  refine s_seq ?_
  refine s_region ?_
  first | (refine s_box1 rfl rfl rfl (fun b1 => ?_)) | (refine s_boxA rfl rfl (fun b1 => ?_))
  change J _ _ _ (cb b1 30 (encIns ⟨op, dst, a, b, imm, callee, A, c, xs, many⟩) :: _) _
  unfold encIns
  refine s_alloc rfl rfl (fun b2 => ?_)
  refine s_done ?_
  refine s_seq ?_
  refine s_region ?_
  refine s_q (by (first | exact y_fieldAddrB rfl rfl rfl rfl rfl rfl | exact y_fieldAddr rfl rfl rfl rfl rfl rfl)) rfl ?_
  refine s_q (by (first | exact y_ld rfl rfl rfl (by rfl) | exact y_ldN rfl rfl rfl (by rfl) | exact y_ldK rfl rfl rfl rfl (by assumption) (by omega) | exact y_ldI rfl rfl rfl rfl (by assumption) (by omega) (by omega))) rfl ?_
  refine s_call (pre := []) (rem := _) rfl rfl tk (fun w N ho hl => LentInts_spec w N A c xs ho (hk.of hl) hlen) rfl ?_
  rintro e L' ⟨G, g, rfl, rfl⟩
  try simp only [List.nil_append, List.cons_append, List.append_nil]
  refine s_q (by (first | exact y_fieldAddrB rfl rfl rfl rfl rfl rfl | exact y_fieldAddr rfl rfl rfl rfl rfl rfl)) rfl ?_
  first | (refine s_storeC rfl rfl rfl rfl (by rfl) ?_) | (refine s_store rfl rfl rfl rfl (by rfl) ?_)
  refine s_done ?_
  refine s_seq ?_
  refine s_region ?_
  refine s_q (by (first | exact y_ldN rfl rfl rfl (by rfl) | exact y_ld rfl rfl rfl (by rfl) | exact y_ldN rfl rfl rfl (by rfl) | exact y_ldK rfl rfl rfl rfl (by assumption) (by omega) | exact y_ldI rfl rfl rfl rfl (by assumption) (by omega) (by omega))) rfl ?_
  first | (refine s_storeW rfl rfl rfl rfl rfl (by rfl) ?_) | (refine s_storeN rfl rfl rfl rfl rfl (by rfl) ?_)
  refine s_done ?_
  refine J.perm (Tk.perm (K := [Sl 3 1 G (xs.length + 12) g (ints (xs ++ marks))])) ?_
  dsimp only [List.cons_append, List.nil_append]
  change J _ _ _ (argsHP ⟨op, dst, a, b, imm, callee, G, g, xs, many⟩ :: _) _
  exact s_return (R := fun v L => ∃ i' : InsD, i'.core = _ ∧ v = .agg (encIns i').toArray ∧ L = [argsHP i']) ⟨⟨op, dst, a, b, imm, callee, G, g, xs, many⟩, rfl, rfl, rfl⟩ (res_cellN Try.results79 rfl rfl rfl rfl)
theorem markIns_spec (w : World) (N : Nat → Prop) (i : Nat) (ho : Owns w [] N) (hi : i < 1000000000) : Ret Try.prog 80 [.int .i64 1, .int .i64 i] w N fun v L => v = .agg (encIns (mkI i)).toArray ∧ L = [] := by
  refine ret_of_J cx Try.func80 rfl (Nat.le_of_ble_eq_true rfl) ho ?_
  refine s_seq ?_
  refine s_region ?_
  refine s_alloc rfl rfl (fun b => ?_)
  refine s_done ?_
  refine s_seq ?_
  refine s_region ?_
  refine s_q (y_move rfl) rfl ?_
  refine s_q (y_move rfl) rfl ?_
  refine s_call (pre := []) (rem := _) rfl rfl tk (fun w N ho hl => mark_spec w N i ho (by omega)) rfl ?_
  rintro e L' ⟨rfl, rfl⟩
  try simp only [List.nil_append, List.cons_append, List.append_nil]
  refine s_q (y_build rfl rfl rfl rfl) rfl ?_
  first | (refine s_storeW rfl rfl rfl rfl rfl (by rfl) ?_) | (refine s_storeN rfl rfl rfl rfl rfl (by rfl) ?_)
  refine s_done ?_
  exact s_return (R := fun v L => v = .agg (encIns (mkI i)).toArray ∧ L = []) ⟨rfl, rfl⟩ (res_cellN Try.results80 rfl rfl rfl rfl)
theorem markBlock_spec (w : World) (N : Nat → Prop) (i : Nat) (ho : Owns w [] N) (hi : i < 1000000000) : Ret Try.prog 64 [.int .i64 1, .int .i64 i] w N fun v L => v = .agg (encBlk (mkB i)).toArray ∧ L = [] := by
  refine ret_of_J cx Try.func64 rfl (Nat.le_of_ble_eq_true rfl) ho ?_
  refine s_seq ?_
  refine s_region ?_
  refine s_alloc rfl rfl (fun b => ?_)
  refine s_done ?_
  refine s_seq ?_
  refine s_region ?_
  refine s_q (y_move rfl) rfl ?_
  refine s_q (y_move rfl) rfl ?_
  refine s_call (pre := []) (rem := _) rfl rfl tk (fun w N ho hl => mark_spec w N i ho (by omega)) rfl ?_
  rintro e L' ⟨rfl, rfl⟩
  try simp only [List.nil_append, List.cons_append, List.append_nil]
  refine s_q (y_build rfl rfl rfl rfl) rfl ?_
  refine s_q (y_build rfl rfl rfl rfl) rfl ?_
  first | (refine s_storeW rfl rfl rfl rfl rfl (by rfl) ?_) | (refine s_storeN rfl rfl rfl rfl rfl (by rfl) ?_)
  refine s_done ?_
  exact s_return (R := fun v L => v = .agg (encBlk (mkB i)).toArray ∧ L = []) ⟨rfl, rfl⟩ (res_cellN Try.results64 rfl rfl rfl rfl)
/-- A row of instructions that is owned, marks behind it, and theirs. -/
def rowHP (G : Option Addr) (g : Nat) (l : List InsD) : HP := star [Sl 30 8 G (l.length + 12) g ((l ++ marksI).flatMap encIns), bs (fun j => argsHP (l.getD j .no)) l.length]
def LentRow (ins : List InsD) (v : Value) (L : List HP) : Prop := ∃ (G : Option Addr) (g : Nat) (l : List InsD), Alike l ins ∧ v = .slice G l.length g ∧ L = [rowHP G g l]
theorem marksI_snoc {i : Nat} (h : i < 12) : marksI.take (i + 1) = marksI.take i ++ [mkI i] := by
  rw [List.take_succ_eq_append_getElem (by simp [marksI]; omega)]; simp [marksI]
theorem marksB_snoc {i : Nat} (h : i < 12) : marksB.take (i + 1) = marksB.take i ++ [mkB i] := by
  rw [List.take_succ_eq_append_getElem (by simp [marksB]; omega)]; simp [marksB]
theorem LentRow_spec (w : World) (N : Nat → Prop) (A : Option Addr) (c : Nat) (ins : List InsD) (ho : Owns w [] N) (hk : KE 8 encIns .no w N A ins) (hx : ∀ i ∈ ins, KI w N i.A i.xs) (hxl : ∀ i ∈ ins, i.xs.length < 1000000) (hlen : ins.length < 1000000) :
    Ret Try.prog 74 [.slice A ins.length c] w N (LentRow ins) := by
  refine ret_of_J cx Try.func74 rfl (Nat.le_of_ble_eq_true rfl) ho ?_
  refine s_seq ?_
  refine s_region ?_
  refine s_q (y_assign rfl) rfl ?_
  refine s_done ?_
  refine s_seq ?_
  refine s_region ?_
  refine s_q (y_move rfl) rfl ?_
  refine s_q (y_lenS rfl rfl rfl) rfl ?_
  refine s_q (y_add rfl rfl (by omega)) rfl ?_
  refine s_mkslice (l := 0) (c := ins.length + 12) rfl rfl rfl (by omega) rfl rfl rfl rfl rfl rfl rfl (by omega) (by omega) (fun b => ?_)
  refine s_q (y_assign rfl) rfl ?_
  refine s_done ?_
  refine s_seq ?_
  refine s_seq ?_
  refine s_region ?_
  refine s_q (y_assign rfl) rfl ?_
  refine s_done ?_
  refine s_block ?_
  change J _ _ _ (Sl 30 8 (some ⟨b, 0, none⟩) 0 (ins.length + 12) (([] : List InsD).flatMap encIns) :: _) _
  refine J.emp (B := Go.E.bs (fun k => argsHP (([] : List InsD).getD k .no)) 0) rfl ?_
  refine s_loopV (σ := Nat × Option Addr × Nat × List InsD) (fun s => [(4, .int .i64 s.1), (3, .slice s.2.1 s.1 s.2.2.1)]) (fun s => [Sl 30 8 s.2.1 s.1 s.2.2.1 (s.2.2.2.flatMap encIns), Go.E.bs (fun j => argsHP (s.2.2.2.getD j .no)) s.1]) (fun s => (s.1 ≤ ins.length) ∧ (s.2.2.2.length = s.1) ∧ (Alike s.2.2.2 (ins.take s.1))) (fun s => ins.length - s.1) (0, some ⟨b, 0, none⟩, ins.length + 12, []) [(0, _)] ⟨rfl, trivial⟩ ⟨rfl, rfl, trivial⟩ tk ⟨Nat.zero_le _, rfl, rfl⟩ ?_
  rintro ⟨k, G, g, l⟩ ⟨hk2, hl, hal⟩
  try dsimp only [List.cons_append, List.nil_append, List.append_nil] at hk2 hl hal ⊢
  refine s_seq ?_
  refine s_seq ?_
  refine s_region ?_
  refine s_q (y_move rfl) rfl ?_
  refine s_q (y_move rfl) rfl ?_
  refine s_q (y_lenS rfl rfl rfl) rfl ?_
  refine s_q (y_lss rfl rfl) rfl ?_
  refine s_done ?_
  refine s_cond rfl (fun h => ?_) (fun h => ?_)
  · have hkl : k < ins.length := by omega
    have hmem := getD_mem InsD.no hkl
    refine s_skip ?_
    refine s_seq ?_
    refine s_block ?_
    refine s_seq ?_
    refine s_region ?_
    refine s_q (y_move rfl) rfl ?_
    refine s_q (y_move rfl) rfl ?_
    refine s_q (by (first | exact y_ixE hk rfl rfl rfl rfl rfl rfl (by omega) (by omega) | exact y_ixI rfl rfl rfl rfl rfl (by assumption) rfl (by omega) (by omega))) rfl ?_
    refine s_q (by (first | exact y_ldE hk rfl rfl rfl (by omega) rfl | exact y_ld rfl rfl rfl (by rfl) | exact y_ldN rfl rfl rfl (by rfl) | exact y_ldK rfl rfl rfl rfl (by assumption) (by omega) | exact y_ldI rfl rfl rfl rfl (by assumption) (by omega) (by omega))) rfl ?_
    refine s_call (pre := []) (rem := _) rfl rfl tk (fun w N ho hl => LentIns_spec w N _ ho ((hx _ hmem).of hl) (hxl _ hmem)) rfl ?_
    rintro e L' ⟨i', hi', rfl, rfl⟩
    try simp only [List.nil_append, List.cons_append, List.append_nil]
    refine s_alloc rfl rfl (fun b => ?_)
    first | (refine s_storeW rfl rfl rfl rfl rfl (by rfl) ?_) | (refine s_storeN rfl rfl rfl rfl rfl (by rfl) ?_)
    change J _ _ _ (cb b 30 (encIns i') :: _) _
    unfold encIns
    refine s_done ?_
    refine s_region ?_
    refine s_q (y_move rfl) rfl ?_
    refine s_q (by (first | exact y_ldN rfl rfl rfl (by rfl) | exact y_ld rfl rfl rfl (by rfl) | exact y_ldN rfl rfl rfl (by rfl) | exact y_ldK rfl rfl rfl rfl (by assumption) (by omega) | exact y_ldI rfl rfl rfl rfl (by assumption) (by omega) (by omega))) rfl ?_
    refine s_bslice rfl rfl rfl rfl rfl rfl rfl rfl (fun nb => ?_)
    refine s_append rfl rfl rfl rfl rfl rfl rfl rfl rfl (by omega) rfl (fun G' g' => ?_)
    change J _ _ _ (Sl 30 8 G' (k + 1) g' (l.flatMap encIns ++ encIns i') :: _) _
    rw [show l.flatMap encIns ++ encIns i' = (l ++ [i']).flatMap encIns by simp]
    refine J.perm (Tk.perm (K := [argsHP i', Go.E.bs (fun j => argsHP (l.getD j .no)) k])) ?_
    dsimp only [List.cons_append, List.nil_append]
    refine J.bsSnoc (fun j => argsHP ((l ++ [i']).getD j .no)) (by (try dsimp only); rw [app_getD_r (by omega), hl, Nat.sub_self]; rfl) (fun j hj => by (try dsimp only); rw [app_getD_l (by omega)]) ?_
    refine s_q (y_assign rfl) rfl ?_
    refine s_done ?_
    refine s_endb ?_
    refine s_region ?_
    refine s_q (y_move rfl) rfl ?_
    refine s_q (y_add rfl rfl (by omega)) rfl ?_
    refine s_q (y_assign rfl) rfl ?_
    refine s_done ?_
    refine s_inv (k + 1, G', g', l ++ [i']) ⟨(by (try dsimp only); omega), by simp [hl], ?_⟩ (by (try dsimp only); omega) ⟨rfl, rfl, rfl, trivial⟩ tk
    dsimp only
    rw [Alike, takeS' hkl, List.map_append, List.map_append, hal, List.map_cons, List.map_cons, hi']
  · have hkl : k = ins.length := by omega
    subst hkl
    rw [List.take_length] at hal
    rw [show l.flatMap encIns = (l ++ marksI.take 0).flatMap encIns by simp]
    refine s_exit rfl ?_
    refine s_seq ?_
    refine s_seq ?_
    refine s_region ?_
    refine s_q (y_assign rfl) rfl ?_
    refine s_done ?_
    refine s_block ?_
    refine s_loopV (σ := Nat × Option Addr × Nat) (fun s => [(6, .int .i64 s.1), (3, .slice s.2.1 (ins.length + s.1) s.2.2)]) (fun s => [Sl 30 8 s.2.1 (ins.length + s.1) s.2.2 ((l ++ marksI.take s.1).flatMap encIns)]) (fun s => (s.1 ≤ 12)) (fun s => 12 - s.1) (0, G, g) [(0, _)] ⟨rfl, trivial⟩ ⟨rfl, rfl, trivial⟩ tk (Nat.zero_le _) ?_
    rintro ⟨i, G, g⟩ hi
    try dsimp only [List.cons_append, List.nil_append, List.append_nil] at hi ⊢
    refine s_seq ?_
    refine s_seq ?_
    refine s_region ?_
    refine s_q (y_move rfl) rfl ?_
    refine s_q (y_lss rfl rfl) rfl ?_
    refine s_done ?_
    refine s_cond rfl (fun h2 => ?_) (fun h2 => ?_)
    · refine s_skip ?_
      refine s_seq ?_
      refine s_block ?_
      refine s_region ?_
      refine s_q (y_move rfl) rfl ?_
      refine s_q (y_move rfl) rfl ?_
      refine s_call (pre := []) (rem := _) rfl rfl tk (fun w N ho hl => markIns_spec w N i ho (by omega)) rfl ?_
      rintro e L' ⟨rfl, rfl⟩
      try simp only [List.nil_append, List.cons_append, List.append_nil]
      refine s_bslice rfl rfl rfl rfl rfl rfl rfl rfl (fun nb => ?_)
      refine s_append rfl rfl rfl rfl rfl rfl rfl rfl rfl (by omega) rfl (fun G' g' => ?_)
      change J _ _ _ (Sl 30 8 G' (ins.length + (i + 1)) g' ((l ++ marksI.take i).flatMap encIns ++ encIns (mkI i)) :: _) _
      rw [show (l ++ marksI.take i).flatMap encIns ++ encIns (mkI i) = (l ++ marksI.take (i + 1)).flatMap encIns by rw [marksI_snoc (by omega)]; simp]
      refine s_q (y_assign rfl) rfl ?_
      refine s_done ?_
      refine s_endb ?_
      refine s_region ?_
      refine s_q (y_move rfl) rfl ?_
      refine s_q (y_add rfl rfl (by omega)) rfl ?_
      refine s_q (y_assign rfl) rfl ?_
      refine s_done ?_
      refine s_inv (i + 1, G', g') (by (try dsimp only); omega) (by (try dsimp only); omega) ⟨rfl, rfl, rfl, trivial⟩ tk
    · have : i = 12 := by omega
      subst this
      refine J.fact Sl.facts fun hf => ?_
      rw [List.take_of_length_le (by simp [marksI])]
      refine s_exit rfl ?_
      refine s_seq ?_
      refine s_region ?_
      refine s_q (y_move rfl) rfl ?_
      refine s_q (y_move rfl) rfl ?_
      refine s_q (y_lenS rfl rfl rfl) rfl ?_
      refine s_q (by (first | exact y_sliceHi (m := ins.length) rfl rfl rfl (by omega) rfl rfl | exact y_sliceHi rfl rfl rfl (by omega) rfl rfl)) rfl ?_
      refine s_q (y_assign rfl) rfl ?_
      refine s_done ?_
      rw [← hl]
      refine (J.group (K := [Sl 30 8 G (l.length + 12) g ((l ++ marksI).flatMap encIns), Go.E.bs (fun j => argsHP (l.getD j .no)) l.length])).1 ?_
      change J _ _ _ (rowHP G g l :: _) _
      exact s_return (R := LentRow ins) ⟨G, g, l, hal, rfl, rfl⟩ (res_tmp Try.results74 rfl)
/-- The instructions of a block that are owned. -/
def blkHP (b : BlkD) : HP := rowHP b.A b.c b.ins
theorem LentBlock_spec (w : World) (N : Nat → Prop) (b : BlkD) (ho : Owns w [] N) (hk : KE 8 encIns .no w N b.A b.ins) (hx : ∀ i ∈ b.ins, KI w N i.A i.xs) (hxl : ∀ i ∈ b.ins, i.xs.length < 1000000) (hlen : b.ins.length < 1000000) :
    Ret Try.prog 63 [.agg (encBlk b).toArray] w N fun v L => ∃ b' : BlkD, b'.like b ∧ v = .agg (encBlk b').toArray ∧ L = [blkHP b'] := by
  refine ret_of_J cx Try.func63 rfl (Nat.le_of_ble_eq_true rfl) ho ?_
  refine s_seq ?_
  refine s_region ?_
  first | (refine s_box1 rfl rfl rfl (fun b1 => ?_)) | (refine s_boxA rfl rfl (fun b1 => ?_))
  change J _ _ _ (cb b1 42 (encBlk b) :: _) _
  unfold encBlk
  refine s_alloc rfl rfl (fun b2 => ?_)
  refine s_done ?_
  refine s_seq ?_
  refine s_region ?_
  refine s_q (by (first | exact y_fieldAddrB rfl rfl rfl rfl rfl rfl | exact y_fieldAddr rfl rfl rfl rfl rfl rfl)) rfl ?_
  refine s_q (by (first | exact y_ld rfl rfl rfl (by rfl) | exact y_ldN rfl rfl rfl (by rfl) | exact y_ldK rfl rfl rfl rfl (by assumption) (by omega) | exact y_ldI rfl rfl rfl rfl (by assumption) (by omega) (by omega))) rfl ?_
  refine s_call (pre := []) (rem := _) rfl rfl tk (fun w N ho hl => LentRow_spec w N b.A b.c b.ins ho (hk.of hl) (fun i hi => (hx i hi).of hl) hxl hlen) rfl ?_
  rintro e L' ⟨G, g, l, hal, rfl, rfl⟩
  try simp only [List.nil_append, List.cons_append, List.append_nil]
  refine s_q (by (first | exact y_fieldAddrB rfl rfl rfl rfl rfl rfl | exact y_fieldAddr rfl rfl rfl rfl rfl rfl)) rfl ?_
  first | (refine s_storeC rfl rfl rfl rfl (by rfl) ?_) | (refine s_store rfl rfl rfl rfl (by rfl) ?_)
  refine s_done ?_
  refine s_seq ?_
  refine s_region ?_
  refine s_q (by (first | exact y_ldN rfl rfl rfl (by rfl) | exact y_ld rfl rfl rfl (by rfl) | exact y_ldN rfl rfl rfl (by rfl) | exact y_ldK rfl rfl rfl rfl (by assumption) (by omega) | exact y_ldI rfl rfl rfl rfl (by assumption) (by omega) (by omega))) rfl ?_
  first | (refine s_storeW rfl rfl rfl rfl rfl (by rfl) ?_) | (refine s_storeN rfl rfl rfl rfl rfl (by rfl) ?_)
  refine s_done ?_
  refine J.perm (Tk.perm (K := [rowHP G g l])) ?_
  dsimp only [List.cons_append, List.nil_append]
  change J _ _ _ (blkHP ⟨G, g, l, b.kind, b.a, b.t0, b.t1⟩ :: _) _
  exact s_return (R := fun v L => ∃ b' : BlkD, b'.like b ∧ v = .agg (encBlk b').toArray ∧ L = [blkHP b']) ⟨⟨G, g, l, b.kind, b.a, b.t0, b.t1⟩, ⟨hal, rfl, rfl, rfl, rfl⟩, rfl, rfl⟩ (res_cellN Try.results63 rfl rfl rfl rfl)
def blksHP (T : Option Addr) (t : Nat) (l : List BlkD) : HP := star [Sl 42 5 T (l.length + 12) t ((l ++ marksB).flatMap encBlk), bs (fun k => blkHP (l.getD k .no)) l.length]
structure AllLike (l bs : List BlkD) : Prop where
  len : l.length = bs.length
  each : ∀ k, k < bs.length → (l.getD k .no).like (bs.getD k .no)
def LentBlks (bs : List BlkD) (v : Value) (L : List HP) : Prop := ∃ (T : Option Addr) (t : Nat) (l : List BlkD), AllLike l bs ∧ v = .slice T l.length t ∧ L = [blksHP T t l]
theorem LentBlocks_spec (w : World) (N : Nat → Prop) (T : Option Addr) (q : Nat) (bs : List BlkD) (ho : Owns w [] N) (hb : KB w N T bs) (hxl : ∀ b ∈ bs, ∀ i ∈ b.ins, i.xs.length < 1000000) (hlen : bs.length < 1000000) (hil : ∀ b ∈ bs, b.ins.length < 1000000) :
    Ret Try.prog 39 [.slice T bs.length q] w N (LentBlks bs) := by
  refine ret_of_J cx Try.func39 rfl (Nat.le_of_ble_eq_true rfl) ho ?_
  refine s_seq ?_
  refine s_region ?_
  refine s_q (y_assign rfl) rfl ?_
  refine s_done ?_
  refine s_seq ?_
  refine s_region ?_
  refine s_q (y_move rfl) rfl ?_
  refine s_q (y_lenS rfl rfl rfl) rfl ?_
  refine s_q (y_add rfl rfl (by omega)) rfl ?_
  refine s_mkslice (l := 0) (c := bs.length + 12) rfl rfl rfl (by omega) rfl rfl rfl rfl rfl rfl rfl (by omega) (by omega) (fun b => ?_)
  refine s_q (y_assign rfl) rfl ?_
  refine s_done ?_
  refine s_seq ?_
  refine s_seq ?_
  refine s_region ?_
  refine s_q (y_assign rfl) rfl ?_
  refine s_done ?_
  refine s_block ?_
  change J _ _ _ (Sl 42 5 (some ⟨b, 0, none⟩) 0 (bs.length + 12) (([] : List BlkD).flatMap encBlk) :: _) _
  refine J.emp (B := Go.E.bs (fun k => blkHP (([] : List BlkD).getD k .no)) 0) rfl ?_
  refine s_loopV (σ := Nat × Option Addr × Nat × List BlkD) (fun s => [(4, .int .i64 s.1), (3, .slice s.2.1 s.1 s.2.2.1)]) (fun s => [Sl 42 5 s.2.1 s.1 s.2.2.1 (s.2.2.2.flatMap encBlk), Go.E.bs (fun j => blkHP (s.2.2.2.getD j .no)) s.1]) (fun s => (s.1 ≤ bs.length) ∧ (s.2.2.2.length = s.1) ∧ (∀ j, j < s.1 → (s.2.2.2.getD j .no).like (bs.getD j .no))) (fun s => bs.length - s.1) (0, some ⟨b, 0, none⟩, bs.length + 12, []) [(0, _)] ⟨rfl, trivial⟩ ⟨rfl, rfl, trivial⟩ tk ⟨Nat.zero_le _, rfl, fun j hj => absurd hj (Nat.not_lt_zero j)⟩ ?_
  rintro ⟨k, G, g, l⟩ ⟨hk2, hl, hal⟩
  try dsimp only [List.cons_append, List.nil_append, List.append_nil] at hk2 hl hal ⊢
  refine s_seq ?_
  refine s_seq ?_
  refine s_region ?_
  refine s_q (y_move rfl) rfl ?_
  refine s_q (y_move rfl) rfl ?_
  refine s_q (y_lenS rfl rfl rfl) rfl ?_
  refine s_q (y_lss rfl rfl) rfl ?_
  refine s_done ?_
  refine s_cond rfl (fun h => ?_) (fun h => ?_)
  · have hkl : k < bs.length := by omega
    have hmem := getD_mem BlkD.no hkl
    refine s_skip ?_
    refine s_seq ?_
    refine s_block ?_
    refine s_seq ?_
    refine s_region ?_
    refine s_q (y_move rfl) rfl ?_
    refine s_q (y_move rfl) rfl ?_
    refine s_q (by (first | exact y_ixE hb.blk rfl rfl rfl rfl rfl rfl (by omega) (by omega) | exact y_ixI rfl rfl rfl rfl rfl (by assumption) rfl (by omega) (by omega))) rfl ?_
    refine s_q (by (first | exact y_ldE hb.blk rfl rfl rfl (by omega) rfl | exact y_ld rfl rfl rfl (by rfl) | exact y_ldN rfl rfl rfl (by rfl) | exact y_ldK rfl rfl rfl rfl (by assumption) (by omega) | exact y_ldI rfl rfl rfl rfl (by assumption) (by omega) (by omega))) rfl ?_
    refine s_call (pre := []) (rem := _) rfl rfl tk (fun w N ho hl => LentBlock_spec w N _ ho ((hb.ins _ hmem).of hl) (fun i hi => (hb.args _ hmem i hi).of hl) (hxl _ hmem) (hil _ hmem)) rfl ?_
    rintro e L' ⟨b', hb', rfl, rfl⟩
    try simp only [List.nil_append, List.cons_append, List.append_nil]
    refine s_alloc rfl rfl (fun b => ?_)
    first | (refine s_storeW rfl rfl rfl rfl rfl (by rfl) ?_) | (refine s_storeN rfl rfl rfl rfl rfl (by rfl) ?_)
    change J _ _ _ (cb b 42 (encBlk b') :: _) _
    unfold encBlk
    refine s_done ?_
    refine s_region ?_
    refine s_q (y_move rfl) rfl ?_
    refine s_q (by (first | exact y_ldN rfl rfl rfl (by rfl) | exact y_ld rfl rfl rfl (by rfl) | exact y_ldN rfl rfl rfl (by rfl) | exact y_ldK rfl rfl rfl rfl (by assumption) (by omega) | exact y_ldI rfl rfl rfl rfl (by assumption) (by omega) (by omega))) rfl ?_
    refine s_bslice rfl rfl rfl rfl rfl rfl rfl rfl (fun nb => ?_)
    refine s_append rfl rfl rfl rfl rfl rfl rfl rfl rfl (by omega) rfl (fun G' g' => ?_)
    change J _ _ _ (Sl 42 5 G' (k + 1) g' (l.flatMap encBlk ++ encBlk b') :: _) _
    rw [show l.flatMap encBlk ++ encBlk b' = (l ++ [b']).flatMap encBlk by simp]
    refine J.perm (Tk.perm (K := [blkHP b', Go.E.bs (fun j => blkHP (l.getD j .no)) k])) ?_
    dsimp only [List.cons_append, List.nil_append]
    refine J.bsSnoc (fun j => blkHP ((l ++ [b']).getD j .no)) (by (try dsimp only); rw [app_getD_r (by omega), hl, Nat.sub_self]; rfl) (fun j hj => by (try dsimp only); rw [app_getD_l (by omega)]) ?_
    refine s_q (y_assign rfl) rfl ?_
    refine s_done ?_
    refine s_endb ?_
    refine s_region ?_
    refine s_q (y_move rfl) rfl ?_
    refine s_q (y_add rfl rfl (by omega)) rfl ?_
    refine s_q (y_assign rfl) rfl ?_
    refine s_done ?_
    refine s_inv (k + 1, G', g', l ++ [b']) ⟨(by (try dsimp only); omega), by simp [hl], fun j hj => ?_⟩ (by (try dsimp only); omega) ⟨rfl, rfl, rfl, trivial⟩ tk
    (try dsimp only at hj ⊢)
    by_cases e : j = k
    · subst e; rw [app_getD_r (by omega), hl, Nat.sub_self]; exact hb'
    · rw [app_getD_l (by omega)]; exact hal j (by omega)
  · have hkl : k = bs.length := by omega
    subst hkl
    rw [show l.flatMap encBlk = (l ++ marksB.take 0).flatMap encBlk by simp]
    refine s_exit rfl ?_
    refine s_seq ?_
    refine s_seq ?_
    refine s_region ?_
    refine s_q (y_assign rfl) rfl ?_
    refine s_done ?_
    refine s_block ?_
    refine s_loopV (σ := Nat × Option Addr × Nat) (fun s => [(6, .int .i64 s.1), (3, .slice s.2.1 (bs.length + s.1) s.2.2)]) (fun s => [Sl 42 5 s.2.1 (bs.length + s.1) s.2.2 ((l ++ marksB.take s.1).flatMap encBlk)]) (fun s => (s.1 ≤ 12)) (fun s => 12 - s.1) (0, G, g) [(0, _)] ⟨rfl, trivial⟩ ⟨rfl, rfl, trivial⟩ tk (Nat.zero_le _) ?_
    rintro ⟨i, G, g⟩ hi
    try dsimp only [List.cons_append, List.nil_append, List.append_nil] at hi ⊢
    refine s_seq ?_
    refine s_seq ?_
    refine s_region ?_
    refine s_q (y_move rfl) rfl ?_
    refine s_q (y_lss rfl rfl) rfl ?_
    refine s_done ?_
    refine s_cond rfl (fun h2 => ?_) (fun h2 => ?_)
    · refine s_skip ?_
      refine s_seq ?_
      refine s_block ?_
      refine s_region ?_
      refine s_q (y_move rfl) rfl ?_
      refine s_q (y_move rfl) rfl ?_
      refine s_call (pre := []) (rem := _) rfl rfl tk (fun w N ho hl => markBlock_spec w N i ho (by omega)) rfl ?_
      rintro e L' ⟨rfl, rfl⟩
      try simp only [List.nil_append, List.cons_append, List.append_nil]
      refine s_bslice rfl rfl rfl rfl rfl rfl rfl rfl (fun nb => ?_)
      refine s_append rfl rfl rfl rfl rfl rfl rfl rfl rfl (by omega) rfl (fun G' g' => ?_)
      change J _ _ _ (Sl 42 5 G' (bs.length + (i + 1)) g' ((l ++ marksB.take i).flatMap encBlk ++ encBlk (mkB i)) :: _) _
      rw [show (l ++ marksB.take i).flatMap encBlk ++ encBlk (mkB i) = (l ++ marksB.take (i + 1)).flatMap encBlk by rw [marksB_snoc (by omega)]; simp]
      refine s_q (y_assign rfl) rfl ?_
      refine s_done ?_
      refine s_endb ?_
      refine s_region ?_
      refine s_q (y_move rfl) rfl ?_
      refine s_q (y_add rfl rfl (by omega)) rfl ?_
      refine s_q (y_assign rfl) rfl ?_
      refine s_done ?_
      refine s_inv (i + 1, G', g') (by (try dsimp only); omega) (by (try dsimp only); omega) ⟨rfl, rfl, rfl, trivial⟩ tk
    · have : i = 12 := by omega
      subst this
      refine J.fact Sl.facts fun hf => ?_
      rw [List.take_of_length_le (by simp [marksB])]
      refine s_exit rfl ?_
      refine s_seq ?_
      refine s_region ?_
      refine s_q (y_move rfl) rfl ?_
      refine s_q (y_move rfl) rfl ?_
      refine s_q (y_lenS rfl rfl rfl) rfl ?_
      refine s_q (by (first | exact y_sliceHi (m := bs.length) rfl rfl rfl (by omega) rfl rfl | exact y_sliceHi rfl rfl rfl (by omega) rfl rfl)) rfl ?_
      refine s_q (y_assign rfl) rfl ?_
      refine s_done ?_
      have hal' : AllLike l bs := ⟨hl, hal⟩
      rw [← hl]
      refine (J.group (K := [Sl 42 5 G (l.length + 12) g ((l ++ marksB).flatMap encBlk), Go.E.bs (fun j => blkHP (l.getD j .no)) l.length])).1 ?_
      change J _ _ _ (blksHP G g l :: _) _
      exact s_return (R := LentBlks bs) ⟨G, g, l, hal', rfl, rfl⟩ (res_tmp Try.results39 rfl)
theorem LentTarget_spec (w : World) (N : Nat → Prop) (T : Option Addr) (q : Nat) (f : Int) (bs : List BlkD) (ho : Owns w [] N) (hb : KB w N T bs) (hxl : ∀ b ∈ bs, ∀ i ∈ b.ins, i.xs.length < 1000000) (hlen : bs.length < 1000000) (hil : ∀ b ∈ bs, b.ins.length < 1000000) :
    Ret Try.prog 14 [.agg #[.int .i64 f, .slice T bs.length q]] w N fun v L => ∃ v', LentBlks bs v' L ∧ v = .agg #[.int .i64 f, v'] := by
  refine ret_of_J cx Try.func14 rfl (Nat.le_of_ble_eq_true rfl) ho ?_
  refine s_seq ?_
  refine s_region ?_
  first | (refine s_box1 rfl rfl rfl (fun b1 => ?_)) | (refine s_boxA rfl rfl (fun b1 => ?_))
  change J _ _ _ (cb b1 27 [.int .i64 f, .slice T bs.length q] :: _) _
  refine s_alloc rfl rfl (fun b2 => ?_)
  refine s_done ?_
  refine s_seq ?_
  refine s_region ?_
  refine s_q (by (first | exact y_fieldAddrB rfl rfl rfl rfl rfl rfl | exact y_fieldAddr rfl rfl rfl rfl rfl rfl)) rfl ?_
  refine s_q (by (first | exact y_ld rfl rfl rfl (by rfl) | exact y_ldN rfl rfl rfl (by rfl) | exact y_ldK rfl rfl rfl rfl (by assumption) (by omega) | exact y_ldI rfl rfl rfl rfl (by assumption) (by omega) (by omega))) rfl ?_
  refine s_call (pre := []) (rem := _) rfl rfl tk (fun w N ho hl => LentBlocks_spec w N T q bs ho (hb.of hl) hxl hlen hil) rfl ?_
  rintro e L' ⟨G, g, l, hal, rfl, rfl⟩
  try simp only [List.nil_append, List.cons_append, List.append_nil]
  refine s_q (by (first | exact y_fieldAddrB rfl rfl rfl rfl rfl rfl | exact y_fieldAddr rfl rfl rfl rfl rfl rfl)) rfl ?_
  first | (refine s_storeC rfl rfl rfl rfl (by rfl) ?_) | (refine s_store rfl rfl rfl rfl (by rfl) ?_)
  refine s_done ?_
  refine s_seq ?_
  refine s_region ?_
  refine s_q (by (first | exact y_ldN rfl rfl rfl (by rfl) | exact y_ld rfl rfl rfl (by rfl) | exact y_ldN rfl rfl rfl (by rfl) | exact y_ldK rfl rfl rfl rfl (by assumption) (by omega) | exact y_ldI rfl rfl rfl rfl (by assumption) (by omega) (by omega))) rfl ?_
  first | (refine s_storeW rfl rfl rfl rfl rfl (by rfl) ?_) | (refine s_storeN rfl rfl rfl rfl rfl (by rfl) ?_)
  refine s_done ?_
  refine J.perm (Tk.perm (K := [blksHP G g l])) ?_
  dsimp only [List.cons_append, List.nil_append]
  exact s_return (R := fun v L => ∃ v', LentBlks bs v' L ∧ v = .agg #[.int .i64 f, v']) ⟨_, ⟨G, g, l, hal, rfl, rfl⟩, rfl⟩ (res_cellN Try.results14 rfl rfl rfl rfl)
end Go.Proofs.Ytgpebcfeeagoaaa
