/- Layer 6 (mir): the contract of mir.Right. -/
import Derived.Test.YtgpebcfeeagoaaaMirF
import Derived.Test.YtgpebcfeeagoaaaMirW
import Derived.Test.YtgpebcfeeagoaaaEEb
set_option linter.unusedVariables false
set_option linter.unusedSimpArgs false
namespace Go.Proofs.Ytgpebcfeeagoaaa
open Go Go.E
set_option maxRecDepth 4000
set_option maxHeartbeats 1000000
/-- Blocks, as they lie: their instructions, the instructions' arguments. -/
structure KB (base : World) (M : Nat → Prop) (T : Option Addr) (bs : List BlkD) : Prop where
  blk : KE 5 encBlk .no base M T bs
  ins : ∀ b ∈ bs, KE 8 encIns .no base M b.A b.ins
  args : ∀ b ∈ bs, ∀ i ∈ b.ins, KI base M i.A i.xs
theorem KB.of {base w : World} {M N : Nat → Prop} {L : List HP} {T : Option Addr} {bs : List BlkD} (h : KB base M T bs) (hl : ∀ w', Since w N w' → Sat base M L w') : KB w N T bs :=
  ⟨h.blk.of hl, fun b hb => (h.ins b hb).of hl, fun b hb i hi => (h.args b hb i hi).of hl⟩
structure TOK (bs : List BlkD) : Prop where
  len : bs.length < 100000000000000
  ins : ∀ b ∈ bs, b.ins.length < 100000000000000
  ok : ∀ b ∈ bs, ∀ i ∈ b.ins, i.ok
  args : ∀ b ∈ bs, ∀ i ∈ b.ins, i.xs.length < 100000000000000
theorem getD_mem {α : Type} (d : α) {l : List α} {k : Nat} (h : k < l.length) : l.getD k d ∈ l := by
  rw [List.getD_eq_getElem?_getD, List.getElem?_eq_getElem h]; exact List.getElem_mem h
theorem long_spec (w : World) (N : Nat → Prop) (b : BlkD) (B : HP) (ho : Owns w [B] N) (hb : b.ins.length < 100000000000000) :
    Ret Try.prog 34 [.agg (encBlk b).toArray] w N fun v L => v = .bool (decide (4000 < b.ins.length)) ∧ L = [B] := by
  refine ret_of_J cx Try.func34 rfl (Nat.le_of_ble_eq_true rfl) ho ?_
  refine s_seq ?_
  refine s_region ?_
  first | (refine s_box1 rfl rfl rfl (fun bb => ?_)) | (refine s_boxA rfl rfl (fun bb => ?_))
  refine s_q (y_assign rfl) rfl ?_
  refine s_done ?_
  refine s_seq ?_
  refine s_region ?_
  refine s_q (by (first | exact y_fieldAddrB rfl rfl rfl rfl rfl rfl | exact y_fieldAddr rfl rfl rfl rfl rfl rfl)) rfl ?_
  refine s_q (by (first | exact y_ld rfl rfl rfl (by rfl) | exact y_ldN rfl rfl rfl (by rfl) | exact y_ldK rfl rfl rfl rfl (by assumption) (by omega) | exact y_ldI rfl rfl rfl rfl (by assumption) (by omega) (by omega))) rfl ?_
  refine s_q (y_lenS rfl rfl rfl) rfl ?_
  refine s_q (y_gtr rfl rfl) rfl ?_
  refine s_q (y_assign rfl) rfl ?_
  refine s_done ?_
  exact s_return ⟨by congr 1; rw [Bool.eq_iff_iff]; simp; omega, rfl⟩ (res_tmp Try.results34 rfl)
def idxB (p : BlkD → Bool) : List BlkD → Int → Int
  | [], _ => -1
  | x :: xs, k => if p x = true then k else idxB p xs (k + 1)
theorem idxB_any (p : BlkD → Bool) : ∀ (xs : List BlkD) (k : Int), 0 ≤ k → (0 ≤ idxB p xs k ↔ xs.any p = true)
  | [], k, h => by simp [idxB]
  | x :: xs, k, h => by
    simp only [idxB, List.any_cons, Bool.or_eq_true]
    by_cases e : p x = true
    · simp [e, h]
    · rw [if_neg e, idxB_any p xs (k + 1) (by omega)]; simp [e]
theorem IndexFuncB_spec (w : World) (N : Nat → Prop) (A : Option Addr) (c : Nat) (xs : List BlkD) (g : FuncId) (B : HP) (p : BlkD → Bool) (hg : cx.has g = true) (hk : KE 5 encBlk .no w N A xs) (ho : Owns w [B] N) (hlen : xs.length < 100000000000000)
    (hp : ∀ w' N' x, x ∈ xs → Owns w' [B] N' → Ret Try.prog g ([.agg (encBlk x).toArray] ++ []) w' N' fun v L => v = .bool (p x) ∧ L = [B]) :
    Ret Try.prog 56 [.slice A xs.length c, .func (.func g) #[] #[]] w N fun v L => v = .int .i64 (idxB p xs 0) ∧ L = [B] := by
  refine ret_of_J cx Try.func56 rfl (Nat.le_of_ble_eq_true rfl) ho ?_
  refine s_seq ?_
  refine s_region ?_
  refine s_q (y_assign rfl) rfl ?_
  refine s_done ?_
  refine s_seq ?_
  refine s_seq ?_
  refine s_region ?_
  refine s_q (y_move rfl) rfl ?_
  refine s_q (y_lenS rfl rfl rfl) rfl ?_
  refine s_q (y_move rfl) rfl ?_
  refine s_done ?_
  refine s_block ?_
  refine s_loopV (σ := Nat) (fun s => [(8, .int .i64 s)]) (fun s => []) (fun s => (s ≤ xs.length) ∧ (idxB p (xs.drop s) s = idxB p xs 0)) (fun s => xs.length - s) (0) [(0, _), (1, _), (7, _)] ⟨rfl, rfl, rfl, trivial⟩ ⟨rfl, trivial⟩ tk ⟨Nat.zero_le _, rfl⟩ ?_
  rintro i ⟨hi, h1⟩
  try dsimp only [List.cons_append, List.nil_append, List.append_nil] at hi h1 ⊢
  refine s_seq ?_
  refine s_region ?_
  refine s_q (y_lss rfl rfl) rfl ?_
  refine s_done ?_
  refine s_seq ?_
  refine s_cond rfl (fun h => ?_) (fun h => ?_)
  · have hil : i < xs.length := by omega
    rw [drop_D .no xs i hil] at h1
    simp only [idxB] at h1
    refine s_skip ?_
    refine s_seq ?_
    refine s_block ?_
    refine s_seq ?_
    refine s_region ?_
    refine s_q (y_move rfl) rfl ?_
    refine s_q (y_assign rfl) rfl ?_
    refine s_done ?_
    refine s_seq ?_
    refine s_region ?_
    refine s_q (y_move rfl) rfl ?_
    refine s_q (y_move rfl) rfl ?_
    refine s_q (y_move rfl) rfl ?_
    refine s_q (by (first | exact y_ixE hk rfl rfl rfl rfl rfl rfl (by omega) (by omega) | exact y_ixI rfl rfl rfl rfl rfl (by assumption) rfl (by omega) (by omega))) rfl ?_
    refine s_q (by (first | exact y_ldE hk rfl rfl rfl (by omega) rfl | exact y_ld rfl rfl rfl (by rfl) | exact y_ldN rfl rfl rfl (by rfl) | exact y_ldK rfl rfl rfl rfl (by assumption) (by omega) | exact y_ldI rfl rfl rfl rfl (by assumption) (by omega) (by omega))) rfl ?_
    refine s_callV (pre := [B]) (rem := []) (caps := []) rfl rfl hg (List.Perm.refl _) (fun w N ho hl => hp w N _ (getD_mem .no hil) ho) rfl ?_
    rintro e L' ⟨rfl, rfl⟩
    simp only [List.append_nil]
    refine s_done ?_
    refine s_condb rfl (fun h2 => ?_) (fun h2 => ?_)
    · rw [if_pos h2] at h1
      refine s_seq ?_
      refine s_region ?_
      refine s_q (y_move rfl) rfl ?_
      refine s_q (y_assign rfl) rfl ?_
      refine s_done ?_
      exact s_return ⟨by rw [← h1], rfl⟩ (res_tmp Try.results56 rfl)
    · rw [if_neg (by rw [h2]; simp)] at h1
      refine s_skip ?_
      refine s_endb ?_
      refine s_region ?_
      refine s_q (y_add rfl rfl (by omega)) rfl ?_
      refine s_q (y_move rfl) rfl ?_
      refine s_done ?_
      refine s_inv (i + 1) ⟨(by (try dsimp only); omega), h1⟩ (by (try dsimp only); omega) ⟨rfl, rfl, rfl, rfl, trivial⟩ tk
  · have hil : i = xs.length := by omega
    subst hil
    refine s_exit rfl ?_
    refine s_seq ?_
    refine s_region ?_
    refine s_q (y_assign rfl) rfl ?_
    refine s_done ?_
    exact s_return ⟨by rw [← h1]; simp [idxB], rfl⟩ (res_tmp Try.results56 rfl)
theorem ContainsFuncB_spec (w : World) (N : Nat → Prop) (A : Option Addr) (c : Nat) (xs : List BlkD) (g : FuncId) (B : HP) (p : BlkD → Bool) (hg : cx.has g = true) (hk : KE 5 encBlk .no w N A xs) (ho : Owns w [B] N) (hlen : xs.length < 100000000000000)
    (hp : ∀ w' N' x, x ∈ xs → Owns w' [B] N' → Ret Try.prog g ([.agg (encBlk x).toArray] ++ []) w' N' fun v L => v = .bool (p x) ∧ L = [B]) :
    Ret Try.prog 35 [.slice A xs.length c, .func (.func g) #[] #[]] w N fun v L => v = .bool (xs.any p) ∧ L = [B] := by
  refine ret_of_J cx Try.func35 rfl (Nat.le_of_ble_eq_true rfl) ho ?_
  refine s_seq ?_
  refine s_region ?_
  refine s_q (y_assign rfl) rfl ?_
  refine s_done ?_
  refine s_seq ?_
  refine s_region ?_
  refine s_q (y_move rfl) rfl ?_
  refine s_q (y_move rfl) rfl ?_
  refine s_call (pre := [B]) (rem := _) rfl rfl tk (fun w N ho hl => IndexFuncB_spec w N A c xs g B p hg (hk.of hl) ho hlen hp) rfl ?_
  rintro e L' ⟨rfl, rfl⟩
  try simp only [List.nil_append, List.cons_append, List.append_nil]
  refine s_q (y_geq rfl rfl) rfl ?_
  refine s_q (y_assign rfl) rfl ?_
  refine s_done ?_
  exact s_return ⟨by congr 1; rw [Bool.eq_iff_iff, decide_eq_true_iff]; exact idxB_any p xs 0 (Int.le_refl 0), rfl⟩ (res_tmp Try.results35 rfl)
theorem blkE_eq (m : MV) (f n : Int) (b : BlkD) : blkE m f n b = firstE ((b.ins.drop 0).map (insE m.regs m.args.length f) ++ [termE m.regs m.ret n b]) := rfl
theorem Right_spec (w : World) (N : Nat → Prop) (m : MV) (A B T : Option Addr) (c d q : Nat) (f : Int) (bs : List BlkD) (ho : Owns w [] N) (ha : KI w N A m.args) (hs : KI w N B m.saved) (hla : m.args.length < 100000000000000) (hls : m.saved.length < 100000000000000) (hb : KB w N T bs) (ht : TOK bs) (hf : i64 f) :
    Ret Try.prog 11 [.agg (mval m A c B d).toArray, .agg #[.int .i64 f, .slice T bs.length q]] w N fun v L => v = .int .i64 (rightE m f bs) ∧ L = [] := by
  have hlen := ht.len
  unfold i64 at hf
  refine ret_of_J cx Try.func11 rfl (Nat.le_of_ble_eq_true rfl) ho ?_
  refine s_seq ?_
  refine s_region ?_
  first | (refine s_box1 rfl rfl rfl (fun bm => ?_)) | (refine s_boxA rfl rfl (fun bm => ?_))
  first | (refine s_box1 rfl rfl rfl (fun bt => ?_)) | (refine s_boxA rfl rfl (fun bt => ?_))
  change J _ _ _ (cb bt 27 [.int .i64 f, .slice T bs.length q] :: cb bm 24 (mval m A c B d) :: _) _
  unfold mval
  refine s_q (y_assign rfl) rfl ?_
  refine s_done ?_
  refine s_seq ?_
  refine s_region ?_
  refine s_q (y_assign rfl) rfl ?_
  refine s_done ?_
  refine s_seq ?_
  refine s_block ?_
  refine s_seq ?_
  refine s_region ?_
  refine s_q (by (first | exact y_ld rfl rfl rfl (by rfl) | exact y_ldN rfl rfl rfl (by rfl) | exact y_ldK rfl rfl rfl rfl (by assumption) (by omega) | exact y_ldI rfl rfl rfl rfl (by assumption) (by omega) (by omega))) rfl ?_
  refine s_call (pre := []) (rem := _) rfl rfl tk (fun w N ho hl => machRight_spec w N A B c d m ho (ha.of hl) (hs.of hl) hla hls) rfl ?_
  rintro e L' ⟨rfl, rfl⟩
  try simp only [List.nil_append, List.cons_append, List.append_nil]
  cases hm : machOK m with
  | false =>
    refine s_q (by (first | exact y_notT rfl | exact y_notF rfl | exact y_notp rfl | exact y_notb rfl)) rfl ?_
    refine s_q (y_assign rfl) rfl ?_
    refine s_done ?_
    refine s_condT2 rfl (by with_reducible rfl) ?_
    refine s_seq ?_
    refine s_region ?_
    refine s_q (y_assign rfl) rfl ?_
    refine s_done ?_
    exact s_return ⟨by rw [rightE, if_pos hm], rfl⟩ (res_tmp Try.results11 rfl)
  | true =>
  have hm8 := (machOK_regs hm).2.2
  have hmf : ¬ machOK m = false := by rw [hm]; simp
  have wf : IntKind.u64.wrap f = f % 18446744073709551616 := wrap_u64 _
  refine s_q (by (first | exact y_notT rfl | exact y_notF rfl | exact y_notp rfl | exact y_notb rfl)) rfl ?_
  refine s_q (y_assign rfl) rfl ?_
  refine s_done ?_
  refine s_condF2 rfl (by with_reducible rfl) ?_
  refine s_seq ?_
  refine s_seq ?_
  refine s_region ?_
  refine s_q (by (first | exact y_fieldAddrB rfl rfl rfl rfl rfl rfl | exact y_fieldAddr rfl rfl rfl rfl rfl rfl)) rfl ?_
  refine s_q (by (first | exact y_ld rfl rfl rfl (by rfl) | exact y_ldN rfl rfl rfl (by rfl) | exact y_ldK rfl rfl rfl rfl (by assumption) (by omega) | exact y_ldI rfl rfl rfl rfl (by assumption) (by omega) (by omega))) rfl ?_
  refine s_q (y_lenS rfl rfl rfl) rfl ?_
  refine s_q (by (first | exact y_eql rfl rfl | exact y_eqlB rfl rfl rfl)) rfl ?_
  refine s_q (y_assign rfl) rfl ?_
  refine s_done ?_
  refine s_joinV (σ := Bool) (fun s => [(17, .bool s)]) [] (fun s => []) (fun s => (s = true ↔ (bs.length = 0 ∨ 200 < bs.length ∨ ¬ (0 ≤ f ∧ f ≤ 400) ∨ ∃ s ∈ bs, 4000 < s.ins.length))) [(2, _), (3, _)] ⟨rfl, rfl, trivial⟩ tk (fun k' hr => ?_) ?_
  · refine s_cond rfl (fun h1 => ?_) (fun h1 => ?_)
    · refine s_skip ?_
      have hr' := hr (decide ((bs.length : Int) = 0)) (by rw [decide_eq_true_iff]; exact ⟨fun _ => .inl (by omega), fun _ => h1⟩)
      try dsimp only [List.cons_append, List.nil_append, List.append_nil] at hr'
      exact J.to hr' ⟨rfl, rfl, rfl, trivial⟩ tk
    · refine s_seq ?_
      refine s_region ?_
      refine s_q (by (first | exact y_fieldAddrB rfl rfl rfl rfl rfl rfl | exact y_fieldAddr rfl rfl rfl rfl rfl rfl)) rfl ?_
      refine s_q (by (first | exact y_ld rfl rfl rfl (by rfl) | exact y_ldN rfl rfl rfl (by rfl) | exact y_ldK rfl rfl rfl rfl (by assumption) (by omega) | exact y_ldI rfl rfl rfl rfl (by assumption) (by omega) (by omega))) rfl ?_
      refine s_q (y_lenS rfl rfl rfl) rfl ?_
      refine s_q (y_gtr rfl rfl) rfl ?_
      refine s_q (y_assign rfl) rfl ?_
      refine s_done ?_
      refine s_cond rfl (fun h2 => ?_) (fun h2 => ?_)
      · refine s_skip ?_
        have hr' := hr (decide ((200 : Int) < (bs.length : Int))) (by rw [decide_eq_true_iff]; exact ⟨fun _ => .inr (.inl (by omega)), fun _ => h2⟩)
        try dsimp only [List.cons_append, List.nil_append, List.append_nil] at hr'
        exact J.to hr' ⟨rfl, rfl, rfl, trivial⟩ tk
      · refine s_seq ?_
        refine s_region ?_
        refine s_q (by (first | exact y_fieldAddrB rfl rfl rfl rfl rfl rfl | exact y_fieldAddr rfl rfl rfl rfl rfl rfl)) rfl ?_
        refine s_q (by (first | exact y_ld rfl rfl rfl (by rfl) | exact y_ldN rfl rfl rfl (by rfl) | exact y_ldK rfl rfl rfl rfl (by assumption) (by omega) | exact y_ldI rfl rfl rfl rfl (by assumption) (by omega) (by omega))) rfl ?_
        refine s_q (y_as (y_convertI (m := f) rfl rfl rfl) (congrArg (Value.int .u64) wf)) rfl ?_
        refine s_q (y_gtr rfl rfl) rfl ?_
        refine s_q (y_assign rfl) rfl ?_
        refine s_done ?_
        refine s_cond rfl (fun h3 => ?_) (fun h3 => ?_)
        · refine s_skip ?_
          have hr' := hr (decide ((400 : Int) < f % 18446744073709551616)) (by rw [decide_eq_true_iff]; exact ⟨fun _ => .inr (.inr (.inl (by omega))), fun _ => h3⟩)
          try dsimp only [List.cons_append, List.nil_append, List.append_nil] at hr'
          exact J.to hr' ⟨rfl, rfl, rfl, trivial⟩ tk
        · refine s_region ?_
          refine s_q (by (first | exact y_fieldAddrB rfl rfl rfl rfl rfl rfl | exact y_fieldAddr rfl rfl rfl rfl rfl rfl)) rfl ?_
          refine s_q (by (first | exact y_ld rfl rfl rfl (by rfl) | exact y_ldN rfl rfl rfl (by rfl) | exact y_ldK rfl rfl rfl rfl (by assumption) (by omega) | exact y_ldI rfl rfl rfl rfl (by assumption) (by omega) (by omega))) rfl ?_
          refine s_q (y_move rfl) rfl ?_
          refine J.puI (p := True) trivial ?_
          refine s_call (pre := [Go.E.pu True]) (rem := _) rfl rfl tk (fun w N ho hl => ContainsFuncB_spec w N T q bs 34 (Go.E.pu True) (fun b => decide (4000 < b.ins.length)) rfl (hb.blk.of hl) ho hlen (fun w' N' x hx ho' => long_spec w' N' x _ ho' (ht.ins x hx))) rfl ?_
          rintro e L' ⟨rfl, rfl⟩
          try simp only [List.nil_append, List.cons_append, List.append_nil]
          refine s_q (y_assign rfl) rfl ?_
          refine s_done ?_
          have hany : bs.any (fun b => decide (4000 < b.ins.length)) = true ↔ (bs.length = 0 ∨ 200 < bs.length ∨ ¬ (0 ≤ f ∧ f ≤ 400) ∨ ∃ b ∈ bs, 4000 < b.ins.length) := by
            simp only [List.any_eq_true, decide_eq_true_eq]
            exact ⟨fun x => .inr (.inr (.inr x)), fun x => x.elim (fun y => absurd y (by omega)) (fun x => x.elim (fun y => absurd y (by omega)) (fun x => x.elim (fun y => absurd y (by omega)) id))⟩
          have hr' := hr (bs.any (fun b => decide (4000 < b.ins.length))) hany
          try dsimp only [List.cons_append, List.nil_append, List.append_nil] at hr'
          exact J.to hr' ⟨rfl, rfl, rfl, trivial⟩ tk
  rintro b hbad
  dsimp only [List.cons_append, List.nil_append]
  cases b with
  | true =>
    have hbd := hbad.1 rfl
    refine s_condT2 rfl (by with_reducible rfl) ?_
    refine s_seq ?_
    refine s_region ?_
    refine s_q (y_assign rfl) rfl ?_
    refine s_done ?_
    exact s_return ⟨by rw [rightE, if_neg hmf, if_pos hbd], rfl⟩ (res_tmp Try.results11 rfl)
  | false =>
  have hbd : ¬ (bs.length = 0 ∨ 200 < bs.length ∨ ¬ (0 ≤ f ∧ f ≤ 400) ∨ ∃ b ∈ bs, 4000 < b.ins.length) := fun x => by have := hbad.2 x; cases this
  have hR : rightE m f bs = firstE (bs.map (blkE m f bs.length)) := by rw [rightE, if_neg hmf, if_neg hbd]
  have hfr : 0 ≤ f ∧ f ≤ 400 := by
    refine Classical.byContradiction fun x => hbd (.inr (.inr (.inl x)))
  clear hbad hbd
  refine s_condF2 rfl (by with_reducible rfl) ?_
  refine s_skip ?_
  refine s_endb ?_
  refine s_seq ?_
  refine s_region ?_
  refine s_q (by (first | exact y_ld rfl rfl rfl (by rfl) | exact y_ldN rfl rfl rfl (by rfl) | exact y_ldK rfl rfl rfl rfl (by assumption) (by omega) | exact y_ldI rfl rfl rfl rfl (by assumption) (by omega) (by omega))) rfl ?_
  refine s_q (by (first | exact y_fieldAddrB rfl rfl rfl rfl rfl rfl | exact y_fieldAddr rfl rfl rfl rfl rfl rfl)) rfl ?_
  refine s_q (by (first | exact y_ld rfl rfl rfl (by rfl) | exact y_ldN rfl rfl rfl (by rfl) | exact y_ldK rfl rfl rfl rfl (by assumption) (by omega) | exact y_ldI rfl rfl rfl rfl (by assumption) (by omega) (by omega))) rfl ?_
  refine s_q (by (first | exact y_fieldAddrB rfl rfl rfl rfl rfl rfl | exact y_fieldAddr rfl rfl rfl rfl rfl rfl)) rfl ?_
  refine s_q (by (first | exact y_ld rfl rfl rfl (by rfl) | exact y_ldN rfl rfl rfl (by rfl) | exact y_ldK rfl rfl rfl rfl (by assumption) (by omega) | exact y_ldI rfl rfl rfl rfl (by assumption) (by omega) (by omega))) rfl ?_
  refine s_q (y_lenS rfl rfl rfl) rfl ?_
  refine s_q (y_build rfl rfl rfl rfl) rfl ?_
  refine s_alloc rfl rfl (fun b6 => ?_)
  first | (refine s_storeW rfl rfl rfl rfl rfl (by rfl) ?_) | (refine s_storeN rfl rfl rfl rfl rfl (by rfl) ?_)
  change J _ _ _ (cb b6 67 (frv m A c B d f bs.length) :: _) _
  unfold frv
  refine s_done ?_
  refine s_seq ?_
  refine s_seq ?_
  refine s_region ?_
  refine s_q (by (first | exact y_fieldAddrB rfl rfl rfl rfl rfl rfl | exact y_fieldAddr rfl rfl rfl rfl rfl rfl)) rfl ?_
  refine s_q (by (first | exact y_ld rfl rfl rfl (by rfl) | exact y_ldN rfl rfl rfl (by rfl) | exact y_ldK rfl rfl rfl rfl (by assumption) (by omega) | exact y_ldI rfl rfl rfl rfl (by assumption) (by omega) (by omega))) rfl ?_
  refine s_q (y_lenS rfl rfl rfl) rfl ?_
  refine s_q (y_move rfl) rfl ?_
  refine s_done ?_
  refine s_block ?_
  refine s_loopV (σ := Nat) (fun s => [(44, .int .i64 s)]) (fun s => []) (fun s => (s ≤ bs.length) ∧ (firstE ((bs.drop s).map (blkE m f bs.length)) = rightE m f bs)) (fun s => bs.length - s) (0) [(6, _), (42, _), (43, _)] ⟨rfl, rfl, rfl, trivial⟩ ⟨rfl, trivial⟩ tk ⟨Nat.zero_le _, hR.symm⟩ ?_
  rintro k ⟨hk, h1⟩
  try dsimp only [List.cons_append, List.nil_append, List.append_nil] at hk h1 ⊢
  refine s_seq ?_
  refine s_region ?_
  refine s_q (y_lss rfl rfl) rfl ?_
  refine s_done ?_
  refine s_seq ?_
  refine s_cond rfl (fun h => ?_) (fun h => ?_)
  · have hkl : k < bs.length := by omega
    rw [drop_D .no bs k hkl] at h1
    simp only [List.map_cons, firstE] at h1
    have hmem := getD_mem BlkD.no hkl
    obtain ⟨b, hbk⟩ : ∃ b, bs.getD k .no = b := ⟨_, rfl⟩
    rw [hbk] at h1 hmem
    have hin := hb.ins b hmem
    have hil := ht.ins b hmem
    refine s_skip ?_
    refine s_seq ?_
    refine s_block ?_
    refine s_seq ?_
    refine s_region ?_
    refine s_q (by (first | exact y_ixE hb.blk rfl rfl rfl rfl rfl rfl (by omega) (by omega) | exact y_ixI rfl rfl rfl rfl rfl (by assumption) rfl (by omega) (by omega))) rfl ?_
    refine s_q (by (first | exact y_ldE hb.blk rfl rfl rfl (by omega) rfl | exact y_ld rfl rfl rfl (by rfl) | exact y_ldN rfl rfl rfl (by rfl) | exact y_ldK rfl rfl rfl rfl (by assumption) (by omega) | exact y_ldI rfl rfl rfl rfl (by assumption) (by omega) (by omega))) rfl ?_
    rw [hbk]
    refine s_alloc rfl rfl (fun b8 => ?_)
    first | (refine s_storeW rfl rfl rfl rfl rfl (by rfl) ?_) | (refine s_storeN rfl rfl rfl rfl rfl (by rfl) ?_)
    change J _ _ _ (cb b8 42 (encBlk b) :: _) _
    unfold encBlk
    refine s_done ?_
    refine s_seq ?_
    refine s_seq ?_
    refine s_region ?_
    refine s_q (by (first | exact y_fieldAddrB rfl rfl rfl rfl rfl rfl | exact y_fieldAddr rfl rfl rfl rfl rfl rfl)) rfl ?_
    refine s_q (by (first | exact y_ld rfl rfl rfl (by rfl) | exact y_ldN rfl rfl rfl (by rfl) | exact y_ldK rfl rfl rfl rfl (by assumption) (by omega) | exact y_ldI rfl rfl rfl rfl (by assumption) (by omega) (by omega))) rfl ?_
    refine s_q (y_lenS rfl rfl rfl) rfl ?_
    refine s_q (y_move rfl) rfl ?_
    refine s_done ?_
    refine s_block ?_
    refine s_loopV (σ := Nat) (fun s => [(51, .int .i64 s)]) (fun s => []) (fun s => (s ≤ b.ins.length) ∧ (firstE ((b.ins.drop s).map (insE m.regs m.args.length f) ++ [termE m.regs m.ret bs.length b]) = blkE m f bs.length b)) (fun s => b.ins.length - s) (0) [(6, _), (8, _), (42, _), (43, _), (44, _), (49, _), (50, _)] ⟨rfl, rfl, rfl, rfl, rfl, rfl, rfl, trivial⟩ ⟨rfl, trivial⟩ tk ⟨Nat.zero_le _, rfl⟩ ?_
    rintro j ⟨hj, h2⟩
    try dsimp only [List.cons_append, List.nil_append, List.append_nil] at hj h2 ⊢
    refine s_seq ?_
    refine s_region ?_
    refine s_q (y_lss rfl rfl) rfl ?_
    refine s_done ?_
    refine s_seq ?_
    refine s_cond rfl (fun h3 => ?_) (fun h3 => ?_)
    · have hjl : j < b.ins.length := by omega
      rw [drop_D .no b.ins j hjl] at h2
      simp only [List.map_cons, List.cons_append, firstE] at h2
      have hmi := getD_mem InsD.no hjl
      have hik := ht.ok b hmem _ hmi
      have hia := ht.args b hmem _ hmi
      refine s_skip ?_
      refine s_seq ?_
      refine s_block ?_
      refine s_seq ?_
      refine s_region ?_
      refine s_q (by (first | exact y_ixE hin rfl rfl rfl rfl rfl rfl (by omega) (by omega) | exact y_ixI rfl rfl rfl rfl rfl (by assumption) rfl (by omega) (by omega))) rfl ?_
      refine s_q (by (first | exact y_ldE hin rfl rfl rfl (by omega) rfl | exact y_ld rfl rfl rfl (by rfl) | exact y_ldN rfl rfl rfl (by rfl) | exact y_ldK rfl rfl rfl rfl (by assumption) (by omega) | exact y_ldI rfl rfl rfl rfl (by assumption) (by omega) (by omega))) rfl ?_
      obtain ⟨i, hij⟩ : ∃ i, b.ins.getD j .no = i := ⟨_, rfl⟩
      rw [hij] at h2 hik hia ⊢
      refine s_alloc rfl rfl (fun b10 => ?_)
      first | (refine s_storeW rfl rfl rfl rfl rfl (by rfl) ?_) | (refine s_storeN rfl rfl rfl rfl rfl (by rfl) ?_)
      change J _ _ _ (cb b10 30 (encIns i) :: _) _
      unfold encIns
      refine s_done ?_
      refine s_seq ?_
      refine s_region ?_
      refine s_q (by (first | exact y_ldN rfl rfl rfl (by rfl) | exact y_ld rfl rfl rfl (by rfl) | exact y_ldN rfl rfl rfl (by rfl) | exact y_ldK rfl rfl rfl rfl (by assumption) (by omega) | exact y_ldI rfl rfl rfl rfl (by assumption) (by omega) (by omega))) rfl ?_
      refine s_q (by (first | exact y_ldN rfl rfl rfl (by rfl) | exact y_ld rfl rfl rfl (by rfl) | exact y_ldN rfl rfl rfl (by rfl) | exact y_ldK rfl rfl rfl rfl (by assumption) (by omega) | exact y_ldI rfl rfl rfl rfl (by assumption) (by omega) (by omega))) rfl ?_
      refine s_call (pre := []) (rem := _) rfl rfl tk (fun w N ho hl => ins_spec w N m A B c d f bs.length i ho hik hm8 hfr (by omega)) rfl ?_
      rintro e L' ⟨rfl, rfl⟩
      try simp only [List.nil_append, List.cons_append, List.append_nil]
      refine s_q (y_assign rfl) rfl ?_
      refine s_done ?_
      refine s_seq ?_
      refine s_region ?_
      refine s_q (y_move rfl) rfl ?_
      refine s_q (by (first | exact y_neq rfl rfl | exact y_neqB rfl rfl rfl)) rfl ?_
      refine s_done ?_
      refine s_cond rfl (fun h4 => ?_) (fun h4 => ?_)
      · rw [if_pos h4] at h2
        rw [← h2, if_pos h4] at h1
        refine s_seq ?_
        refine s_region ?_
        refine s_q (y_move rfl) rfl ?_
        refine s_q (y_assign rfl) rfl ?_
        refine s_done ?_
        exact s_return ⟨by rw [← h1], rfl⟩ (res_tmp Try.results11 rfl)
      · rw [if_neg h4] at h2
        refine s_skip ?_
        refine s_endb ?_
        refine s_region ?_
        refine s_q (y_add rfl rfl (by omega)) rfl ?_
        refine s_q (y_move rfl) rfl ?_
        refine s_done ?_
        refine s_inv (j + 1) ⟨(by (try dsimp only); omega), h2⟩ (by (try dsimp only); omega) ⟨rfl, rfl, rfl, rfl, rfl, rfl, rfl, rfl, trivial⟩ tk
    · have hjl : j = b.ins.length := by omega
      subst hjl
      rw [List.drop_length] at h2
      simp only [List.map_nil, List.nil_append, firstE] at h2
      refine s_exit rfl ?_
      refine s_seq ?_
      refine s_region ?_
      refine s_q (by (first | exact y_ld rfl rfl rfl (by rfl) | exact y_ldN rfl rfl rfl (by rfl) | exact y_ldK rfl rfl rfl rfl (by assumption) (by omega) | exact y_ldI rfl rfl rfl rfl (by assumption) (by omega) (by omega))) rfl ?_
      refine s_q (by (first | exact y_fieldAddrB rfl rfl rfl rfl rfl rfl | exact y_fieldAddr rfl rfl rfl rfl rfl rfl)) rfl ?_
      refine s_q (by (first | exact y_ld rfl rfl rfl (by rfl) | exact y_ldN rfl rfl rfl (by rfl) | exact y_ldK rfl rfl rfl rfl (by assumption) (by omega) | exact y_ldI rfl rfl rfl rfl (by assumption) (by omega) (by omega))) rfl ?_
      refine s_call (pre := []) (rem := _) rfl rfl tk (fun w N ho hl => term_spec w N m A B c d f bs.length b ho) rfl ?_
      rintro e L' ⟨rfl, rfl⟩
      try simp only [List.nil_append, List.cons_append, List.append_nil]
      refine s_q (y_assign rfl) rfl ?_
      refine s_done ?_
      refine s_seq ?_
      refine s_region ?_
      refine s_q (y_move rfl) rfl ?_
      refine s_q (by (first | exact y_neq rfl rfl | exact y_neqB rfl rfl rfl)) rfl ?_
      refine s_done ?_
      refine s_cond rfl (fun h4 => ?_) (fun h4 => ?_)
      · rw [if_pos h4] at h2
        rw [← h2, if_pos h4] at h1
        refine s_seq ?_
        refine s_region ?_
        refine s_q (y_move rfl) rfl ?_
        refine s_q (y_assign rfl) rfl ?_
        refine s_done ?_
        exact s_return ⟨by rw [← h1], rfl⟩ (res_tmp Try.results11 rfl)
      · rw [if_neg h4] at h2
        rw [← h2, if_neg (by simp)] at h1
        refine s_skip ?_
        refine s_endb ?_
        refine s_region ?_
        refine s_q (y_add rfl rfl (by omega)) rfl ?_
        refine s_q (y_move rfl) rfl ?_
        refine s_done ?_
        refine s_inv (k + 1) ⟨(by (try dsimp only); omega), h1⟩ (by (try dsimp only); omega) ⟨rfl, rfl, rfl, rfl, trivial⟩ tk
  · have hkl : k = bs.length := by omega
    subst hkl
    refine s_exit rfl ?_
    refine s_seq ?_
    refine s_region ?_
    refine s_q (y_assign rfl) rfl ?_
    refine s_done ?_
    exact s_return ⟨by rw [← h1]; simp [firstE], rfl⟩ (res_tmp Try.results11 rfl)
end Go.Proofs.Ytgpebcfeeagoaaa
