/- Layer 6 (mir): targets compared; lent targets looked at again. -/
import Derived.Test.YtgpebcfeeagoaaaMirR
import Derived.Test.YtgpebcfeeagoaaaEEc
import Derived.Test.YtgpebcfeeagoaaaEEb
set_option linter.unusedVariables false
set_option linter.unusedSimpArgs false
namespace Go.Proofs.Ytgpebcfeeagoaaa
open Go Go.E
set_option maxRecDepth 4000
set_option maxHeartbeats 1000000
theorem core_at {i j : InsD} (h : i.core = j.core) : j = { i with A := j.A, c := j.c } := by
  cases i; cases j; simp [InsD.core] at h; simp [h]
theorem SameIns_spec (w : World) (N : Nat → Prop) (i j : InsD) (he : i.core = j.core) (ho : Owns w [] N) (hi : KI w N i.A i.xs) (hj : KI w N j.A j.xs) (hlen : i.xs.length < 1000000) :
    Ret Try.prog 82 [.agg (encIns i).toArray, .agg (encIns j).toArray] w N fun v L => v = .bool true ∧ L = [] := by
  obtain ⟨A', c', rfl⟩ : ∃ A' c', j = { i with A := A', c := c' } := ⟨_, _, core_at he⟩
  dsimp only at hj
  refine ret_of_J cx Try.func82 rfl (Nat.le_of_ble_eq_true rfl) ho ?_
  refine s_seq ?_
  refine s_region ?_
  first | (refine s_box1 rfl rfl rfl (fun b1 => ?_)) | (refine s_boxA rfl rfl (fun b1 => ?_))
  change J _ _ _ (cb b1 30 (encIns i) :: _) _
  first | (refine s_box1 rfl rfl rfl (fun b2 => ?_)) | (refine s_boxA rfl rfl (fun b2 => ?_))
  change J _ _ _ (cb b2 30 (encIns { i with A := A', c := c' }) :: _) _
  unfold encIns
  refine s_q (y_assign rfl) rfl ?_
  refine s_done ?_
  refine s_seq ?_
  refine s_region ?_
  refine s_q (by (first | exact y_fieldAddrB rfl rfl rfl rfl rfl rfl | exact y_fieldAddr rfl rfl rfl rfl rfl rfl)) rfl ?_
  refine s_q (by (first | exact y_ld rfl rfl rfl (by rfl) | exact y_ldN rfl rfl rfl (by rfl) | exact y_ldK rfl rfl rfl rfl (by assumption) (by omega) | exact y_ldI rfl rfl rfl rfl (by assumption) (by omega) (by omega))) rfl ?_
  refine s_q (by (first | exact y_fieldAddrB rfl rfl rfl rfl rfl rfl | exact y_fieldAddr rfl rfl rfl rfl rfl rfl)) rfl ?_
  refine s_q (by (first | exact y_ld rfl rfl rfl (by rfl) | exact y_ldN rfl rfl rfl (by rfl) | exact y_ldK rfl rfl rfl rfl (by assumption) (by omega) | exact y_ldI rfl rfl rfl rfl (by assumption) (by omega) (by omega))) rfl ?_
  refine s_q (by (first | exact y_as (y_eql rfl rfl) (congrArg Value.bool (decide_eq_true rfl)) | exact y_eql rfl rfl | exact y_eqlB rfl rfl rfl)) rfl ?_
  refine s_q (y_move rfl) rfl ?_
  refine s_guard2 rfl rfl (by with_reducible rfl) ?_
  refine s_q (by (first | exact y_fieldAddrB rfl rfl rfl rfl rfl rfl | exact y_fieldAddr rfl rfl rfl rfl rfl rfl)) rfl ?_
  refine s_guard2 rfl rfl (by with_reducible rfl) ?_
  refine s_q (by (first | exact y_ld rfl rfl rfl (by rfl) | exact y_ldN rfl rfl rfl (by rfl) | exact y_ldK rfl rfl rfl rfl (by assumption) (by omega) | exact y_ldI rfl rfl rfl rfl (by assumption) (by omega) (by omega))) rfl ?_
  refine s_guard2 rfl rfl (by with_reducible rfl) ?_
  refine s_q (by (first | exact y_fieldAddrB rfl rfl rfl rfl rfl rfl | exact y_fieldAddr rfl rfl rfl rfl rfl rfl)) rfl ?_
  refine s_guard2 rfl rfl (by with_reducible rfl) ?_
  refine s_q (by (first | exact y_ld rfl rfl rfl (by rfl) | exact y_ldN rfl rfl rfl (by rfl) | exact y_ldK rfl rfl rfl rfl (by assumption) (by omega) | exact y_ldI rfl rfl rfl rfl (by assumption) (by omega) (by omega))) rfl ?_
  refine s_guard2 rfl rfl (by with_reducible rfl) ?_
  refine s_q (by (first | exact y_as (y_eql rfl rfl) (congrArg Value.bool (decide_eq_true rfl)) | exact y_eql rfl rfl | exact y_eqlB rfl rfl rfl)) rfl ?_
  refine s_q (by (first | exact y_pickT rfl rfl | exact y_pickF rfl rfl)) rfl ?_
  refine s_q (y_move rfl) rfl ?_
  refine s_guard2 rfl rfl (by with_reducible rfl) ?_
  refine s_q (by (first | exact y_fieldAddrB rfl rfl rfl rfl rfl rfl | exact y_fieldAddr rfl rfl rfl rfl rfl rfl)) rfl ?_
  refine s_guard2 rfl rfl (by with_reducible rfl) ?_
  refine s_q (by (first | exact y_ld rfl rfl rfl (by rfl) | exact y_ldN rfl rfl rfl (by rfl) | exact y_ldK rfl rfl rfl rfl (by assumption) (by omega) | exact y_ldI rfl rfl rfl rfl (by assumption) (by omega) (by omega))) rfl ?_
  refine s_guard2 rfl rfl (by with_reducible rfl) ?_
  refine s_q (by (first | exact y_fieldAddrB rfl rfl rfl rfl rfl rfl | exact y_fieldAddr rfl rfl rfl rfl rfl rfl)) rfl ?_
  refine s_guard2 rfl rfl (by with_reducible rfl) ?_
  refine s_q (by (first | exact y_ld rfl rfl rfl (by rfl) | exact y_ldN rfl rfl rfl (by rfl) | exact y_ldK rfl rfl rfl rfl (by assumption) (by omega) | exact y_ldI rfl rfl rfl rfl (by assumption) (by omega) (by omega))) rfl ?_
  refine s_guard2 rfl rfl (by with_reducible rfl) ?_
  refine s_q (by (first | exact y_as (y_eql rfl rfl) (congrArg Value.bool (decide_eq_true rfl)) | exact y_eql rfl rfl | exact y_eqlB rfl rfl rfl)) rfl ?_
  refine s_q (by (first | exact y_pickT rfl rfl | exact y_pickF rfl rfl)) rfl ?_
  refine s_q (y_move rfl) rfl ?_
  refine s_guard2 rfl rfl (by with_reducible rfl) ?_
  refine s_q (by (first | exact y_fieldAddrB rfl rfl rfl rfl rfl rfl | exact y_fieldAddr rfl rfl rfl rfl rfl rfl)) rfl ?_
  refine s_guard2 rfl rfl (by with_reducible rfl) ?_
  refine s_q (by (first | exact y_ld rfl rfl rfl (by rfl) | exact y_ldN rfl rfl rfl (by rfl) | exact y_ldK rfl rfl rfl rfl (by assumption) (by omega) | exact y_ldI rfl rfl rfl rfl (by assumption) (by omega) (by omega))) rfl ?_
  refine s_guard2 rfl rfl (by with_reducible rfl) ?_
  refine s_q (by (first | exact y_fieldAddrB rfl rfl rfl rfl rfl rfl | exact y_fieldAddr rfl rfl rfl rfl rfl rfl)) rfl ?_
  refine s_guard2 rfl rfl (by with_reducible rfl) ?_
  refine s_q (by (first | exact y_ld rfl rfl rfl (by rfl) | exact y_ldN rfl rfl rfl (by rfl) | exact y_ldK rfl rfl rfl rfl (by assumption) (by omega) | exact y_ldI rfl rfl rfl rfl (by assumption) (by omega) (by omega))) rfl ?_
  refine s_guard2 rfl rfl (by with_reducible rfl) ?_
  refine s_q (by (first | exact y_as (y_eql rfl rfl) (congrArg Value.bool (decide_eq_true rfl)) | exact y_eql rfl rfl | exact y_eqlB rfl rfl rfl)) rfl ?_
  refine s_q (by (first | exact y_pickT rfl rfl | exact y_pickF rfl rfl)) rfl ?_
  refine s_q (y_move rfl) rfl ?_
  refine s_guard2 rfl rfl (by with_reducible rfl) ?_
  refine s_q (by (first | exact y_fieldAddrB rfl rfl rfl rfl rfl rfl | exact y_fieldAddr rfl rfl rfl rfl rfl rfl)) rfl ?_
  refine s_guard2 rfl rfl (by with_reducible rfl) ?_
  refine s_q (by (first | exact y_ld rfl rfl rfl (by rfl) | exact y_ldN rfl rfl rfl (by rfl) | exact y_ldK rfl rfl rfl rfl (by assumption) (by omega) | exact y_ldI rfl rfl rfl rfl (by assumption) (by omega) (by omega))) rfl ?_
  refine s_guard2 rfl rfl (by with_reducible rfl) ?_
  refine s_q (by (first | exact y_fieldAddrB rfl rfl rfl rfl rfl rfl | exact y_fieldAddr rfl rfl rfl rfl rfl rfl)) rfl ?_
  refine s_guard2 rfl rfl (by with_reducible rfl) ?_
  refine s_q (by (first | exact y_ld rfl rfl rfl (by rfl) | exact y_ldN rfl rfl rfl (by rfl) | exact y_ldK rfl rfl rfl rfl (by assumption) (by omega) | exact y_ldI rfl rfl rfl rfl (by assumption) (by omega) (by omega))) rfl ?_
  refine s_guard2 rfl rfl (by with_reducible rfl) ?_
  refine s_q (by (first | exact y_as (y_eql rfl rfl) (congrArg Value.bool (decide_eq_true rfl)) | exact y_eql rfl rfl | exact y_eqlB rfl rfl rfl)) rfl ?_
  refine s_q (by (first | exact y_pickT rfl rfl | exact y_pickF rfl rfl)) rfl ?_
  refine s_q (y_move rfl) rfl ?_
  refine s_guard2 rfl rfl (by with_reducible rfl) ?_
  refine s_q (by (first | exact y_fieldAddrB rfl rfl rfl rfl rfl rfl | exact y_fieldAddr rfl rfl rfl rfl rfl rfl)) rfl ?_
  refine s_guard2 rfl rfl (by with_reducible rfl) ?_
  refine s_q (by (first | exact y_ld rfl rfl rfl (by rfl) | exact y_ldN rfl rfl rfl (by rfl) | exact y_ldK rfl rfl rfl rfl (by assumption) (by omega) | exact y_ldI rfl rfl rfl rfl (by assumption) (by omega) (by omega))) rfl ?_
  refine s_guard2 rfl rfl (by with_reducible rfl) ?_
  refine s_q (by (first | exact y_fieldAddrB rfl rfl rfl rfl rfl rfl | exact y_fieldAddr rfl rfl rfl rfl rfl rfl)) rfl ?_
  refine s_guard2 rfl rfl (by with_reducible rfl) ?_
  refine s_q (by (first | exact y_ld rfl rfl rfl (by rfl) | exact y_ldN rfl rfl rfl (by rfl) | exact y_ldK rfl rfl rfl rfl (by assumption) (by omega) | exact y_ldI rfl rfl rfl rfl (by assumption) (by omega) (by omega))) rfl ?_
  refine s_guard2 rfl rfl (by with_reducible rfl) ?_
  refine s_q (by (first | exact y_as (y_eql rfl rfl) (congrArg Value.bool (decide_eq_true rfl)) | exact y_eql rfl rfl | exact y_eqlB rfl rfl rfl)) rfl ?_
  refine s_q (by (first | exact y_pickT rfl rfl | exact y_pickF rfl rfl)) rfl ?_
  refine s_q (y_move rfl) rfl ?_
  refine s_guard2 rfl rfl (by with_reducible rfl) ?_
  refine s_q (by (first | exact y_fieldAddrB rfl rfl rfl rfl rfl rfl | exact y_fieldAddr rfl rfl rfl rfl rfl rfl)) rfl ?_
  refine s_guard2 rfl rfl (by with_reducible rfl) ?_
  refine s_q (by (first | exact y_ld rfl rfl rfl (by rfl) | exact y_ldN rfl rfl rfl (by rfl) | exact y_ldK rfl rfl rfl rfl (by assumption) (by omega) | exact y_ldI rfl rfl rfl rfl (by assumption) (by omega) (by omega))) rfl ?_
  refine s_guard2 rfl rfl (by with_reducible rfl) ?_
  refine s_q (by (first | exact y_fieldAddrB rfl rfl rfl rfl rfl rfl | exact y_fieldAddr rfl rfl rfl rfl rfl rfl)) rfl ?_
  refine s_guard2 rfl rfl (by with_reducible rfl) ?_
  refine s_q (by (first | exact y_ld rfl rfl rfl (by rfl) | exact y_ldN rfl rfl rfl (by rfl) | exact y_ldK rfl rfl rfl rfl (by assumption) (by omega) | exact y_ldI rfl rfl rfl rfl (by assumption) (by omega) (by omega))) rfl ?_
  refine s_guard2 rfl rfl (by with_reducible rfl) ?_
  refine s_call (pre := []) (rem := _) rfl rfl tk (fun w N ho hl => SameInts_spec w N i.A A' i.c c' i.xs.length i.xs.length i.xs i.xs rfl rfl ho (hi.of hl) (hj.of hl) (by omega)) rfl ?_
  rintro e L' ⟨rfl, rfl⟩
  try simp only [List.nil_append, List.cons_append, List.append_nil]
  simp only [decide_true]
  refine s_q (by (first | exact y_pickT rfl rfl | exact y_pickF rfl rfl)) rfl ?_
  refine s_q (y_move rfl) rfl ?_
  refine s_guard2 rfl rfl (by with_reducible rfl) ?_
  refine s_q (by (first | exact y_fieldAddrB rfl rfl rfl rfl rfl rfl | exact y_fieldAddr rfl rfl rfl rfl rfl rfl)) rfl ?_
  refine s_guard2 rfl rfl (by with_reducible rfl) ?_
  refine s_q (by (first | exact y_ld rfl rfl rfl (by rfl) | exact y_ldN rfl rfl rfl (by rfl) | exact y_ldK rfl rfl rfl rfl (by assumption) (by omega) | exact y_ldI rfl rfl rfl rfl (by assumption) (by omega) (by omega))) rfl ?_
  refine s_guard2 rfl rfl (by with_reducible rfl) ?_
  refine s_q (by (first | exact y_fieldAddrB rfl rfl rfl rfl rfl rfl | exact y_fieldAddr rfl rfl rfl rfl rfl rfl)) rfl ?_
  refine s_guard2 rfl rfl (by with_reducible rfl) ?_
  refine s_q (by (first | exact y_ld rfl rfl rfl (by rfl) | exact y_ldN rfl rfl rfl (by rfl) | exact y_ldK rfl rfl rfl rfl (by assumption) (by omega) | exact y_ldI rfl rfl rfl rfl (by assumption) (by omega) (by omega))) rfl ?_
  refine s_guard2 rfl rfl (by with_reducible rfl) ?_
  refine s_q (by (first | exact y_as (y_eql rfl rfl) (congrArg Value.bool (decide_eq_true rfl)) | exact y_eql rfl rfl | exact y_eqlB rfl rfl rfl)) rfl ?_
  refine s_q (by (first | exact y_pickT rfl rfl | exact y_pickF rfl rfl)) rfl ?_
  refine s_q (y_assign rfl) rfl ?_
  refine s_done ?_
  exact s_return ⟨rfl, rfl⟩ (res_tmp Try.results82 rfl)
theorem SameRow_spec (w : World) (N : Nat → Prop) (A B : Option Addr) (c d n p : Nat) (l r : List InsD) (hn : n = l.length) (hp : p = l.length) (he : Alike l r) (ho : Owns w [] N) (hk : KE 8 encIns .no w N A l) (hk2 : KE 8 encIns .no w N B r) (hx : ∀ i ∈ l, KI w N i.A i.xs) (hy : ∀ i ∈ r, KI w N i.A i.xs) (hxl : ∀ i ∈ l, i.xs.length < 1000000) (hlen : l.length < 1000000) :
    Ret Try.prog 76 [.slice A n c, .slice B p d] w N fun v L => v = .bool true ∧ L = [] := by
  subst hn hp
  have hrl := he.len
  refine ret_of_J cx Try.func76 rfl (Nat.le_of_ble_eq_true rfl) ho ?_
  refine s_seq ?_
  refine s_region ?_
  refine s_q (y_assign rfl) rfl ?_
  refine s_done ?_
  refine s_seq ?_
  refine s_seq ?_
  refine s_region ?_
  refine s_q (y_move rfl) rfl ?_
  refine s_q (y_lenS rfl rfl rfl) rfl ?_
  refine s_q (y_move rfl) rfl ?_
  refine s_q (y_lenS rfl rfl rfl) rfl ?_
  refine s_q (by (first | exact y_as (y_neq rfl rfl) (congrArg Value.bool (decide_eq_false (fun h => h rfl))) | exact y_neq rfl rfl | exact y_neqB rfl rfl rfl)) rfl ?_
  refine s_done ?_
  refine s_condF2 rfl (by with_reducible rfl) ?_
  refine s_skip ?_
  refine s_seq ?_
  refine s_seq ?_
  refine s_region ?_
  refine s_q (y_assign rfl) rfl ?_
  refine s_done ?_
  refine s_block ?_
  refine s_loopV (σ := Nat) (fun s => [(5, .int .i64 s)]) (fun s => []) (fun s => (s ≤ l.length)) (fun s => l.length - s) (0) [(0, _), (1, _)] ⟨rfl, rfl, trivial⟩ ⟨rfl, trivial⟩ tk (Nat.zero_le _) ?_
  rintro k hk3
  try dsimp only [List.cons_append, List.nil_append, List.append_nil] at hk3 ⊢
  refine s_seq ?_
  refine s_seq ?_
  refine s_region ?_
  refine s_q (y_move rfl) rfl ?_
  refine s_q (y_move rfl) rfl ?_
  refine s_q (y_lenS rfl rfl rfl) rfl ?_
  refine s_q (y_lss rfl rfl) rfl ?_
  refine s_done ?_
  refine s_cond rfl (fun h => ?_) (fun h => ?_)
  · have hkl : k < l.length := by omega
    have hm := getD_mem InsD.no hkl
    have hm2 := getD_mem (l := r) InsD.no (k := k) (by omega)
    have hce : (l.getD k .no).core = (r.getD k .no).core := by
      have := congrArg (fun z => z[k]?) he
      simp only [List.getElem?_map] at this
      rw [List.getElem?_eq_getElem hkl, List.getElem?_eq_getElem (by omega)] at this
      rw [List.getD_eq_getElem?_getD, List.getElem?_eq_getElem hkl, List.getD_eq_getElem?_getD, List.getElem?_eq_getElem (by omega)]
      exact Option.some.inj this
    refine s_skip ?_
    refine s_seq ?_
    refine s_block ?_
    refine s_seq ?_
    refine d_start ?_
    refine d_take 0 rfl (by kernel_rfl) (by exact y_move rfl) rfl ?_
    refine d_take 1 rfl (by kernel_rfl) (by exact y_move rfl) rfl ?_
    refine d_take 2 rfl (by kernel_rfl) (by (first | exact y_ixE hk rfl rfl rfl rfl rfl rfl (by omega) (by omega) | exact y_ixE hk2 rfl rfl rfl rfl rfl hrl (by omega) (by omega) | exact y_ixI rfl rfl rfl rfl rfl (by assumption) rfl (by omega) (by omega))) rfl ?_
    refine d_take 3 rfl (by kernel_rfl) (by (first | exact y_ldE hk rfl rfl rfl (by omega) rfl | exact y_ldE hk2 rfl rfl rfl (by omega) rfl | exact y_ld rfl rfl rfl (by rfl) | exact y_ldN rfl rfl rfl (by rfl) | exact y_ldK rfl rfl rfl rfl (by assumption) (by omega) | exact y_ldI rfl rfl rfl rfl (by assumption) (by omega) (by omega))) rfl ?_
    refine d_take 4 rfl (by kernel_rfl) (by exact y_move rfl) rfl ?_
    refine d_take 5 rfl (by kernel_rfl) (by exact y_move rfl) rfl ?_
    refine d_take 6 rfl (by kernel_rfl) (by (first | exact y_ixE hk rfl rfl rfl rfl rfl rfl (by omega) (by omega) | exact y_ixE hk2 rfl rfl rfl rfl rfl hrl (by omega) (by omega) | exact y_ixI rfl rfl rfl rfl rfl (by assumption) rfl (by omega) (by omega))) rfl ?_
    refine d_take 7 rfl (by kernel_rfl) (by (first | exact y_ldE hk rfl rfl rfl (by omega) rfl | exact y_ldE hk2 rfl rfl rfl (by omega) rfl | exact y_ld rfl rfl rfl (by rfl) | exact y_ldN rfl rfl rfl (by rfl) | exact y_ldK rfl rfl rfl rfl (by assumption) (by omega) | exact y_ldI rfl rfl rfl rfl (by assumption) (by omega) (by omega))) rfl ?_
    refine d_effM 8 [7, 6, 5, 4, 3, 2, 1, 0] [false, true, true, true, false, true, true, true] rfl (by kernel_rfl) rfl (by kernel_rfl) (fun K hK => ?_)
    refine s_call (pre := []) (rem := _) rfl rfl tk (fun w N ho hl => SameIns_spec w N _ _ hce ho ((hx _ hm).of hl) ((hy _ hm2).of hl) (hxl _ hm)) rfl ?_
    rintro e L' ⟨rfl, rfl⟩
    try simp only [List.nil_append, List.cons_append, List.append_nil]
    refine s_done ?_
    refine hK _ _ (by refine rm_skip ?_; refine rm_yd rfl (by (first | exact y_ixE hk rfl rfl rfl rfl rfl rfl (by omega) (by omega) | exact y_ixE hk2 rfl rfl rfl rfl rfl hrl (by omega) (by omega) | exact y_ixI rfl rfl rfl rfl rfl (by assumption) rfl (by omega) (by omega))) ?_; refine rm_yd rfl (by exact y_move rfl) ?_; refine rm_yd rfl (by exact y_move rfl) ?_; refine rm_skip ?_; refine rm_yd rfl (by (first | exact y_ixE hk rfl rfl rfl rfl rfl rfl (by omega) (by omega) | exact y_ixE hk2 rfl rfl rfl rfl rfl hrl (by omega) (by omega) | exact y_ixI rfl rfl rfl rfl rfl (by assumption) rfl (by omega) (by omega))) ?_; refine rm_yd rfl (by exact y_move rfl) ?_; refine rm_yd rfl (by exact y_move rfl) ?_; exact rm_nil) ?_
    clear hK K
    refine d_take 9 rfl (by kernel_rfl) (by (first | exact y_notT rfl | exact y_notF rfl | exact y_notp rfl | exact y_notb rfl)) rfl ?_
    refine d_done (by kernel_rfl) ?_
    refine s_condF2 rfl (congrArg Value.bool (by decide)) ?_
    refine s_skip ?_
    refine s_endb ?_
    refine s_region ?_
    refine s_q (y_move rfl) rfl ?_
    refine s_q (y_add rfl rfl (by omega)) rfl ?_
    refine s_q (y_assign rfl) rfl ?_
    refine s_done ?_
    refine s_inv (k + 1) (by (try dsimp only); omega) (by (try dsimp only); omega) ⟨rfl, rfl, rfl, trivial⟩ tk
  · refine s_exit rfl ?_
    refine s_seq ?_
    refine s_region ?_
    refine s_q (y_assign rfl) rfl ?_
    refine s_done ?_
    exact s_return ⟨rfl, rfl⟩ (res_tmp Try.results76 rfl)
theorem SameBlock_spec (w : World) (N : Nat → Prop) (b b' : BlkD) (he : b.like b') (ho : Owns w [] N) (hk : KE 8 encIns .no w N b.A b.ins) (hk2 : KE 8 encIns .no w N b'.A b'.ins) (hx : ∀ i ∈ b.ins, KI w N i.A i.xs) (hy : ∀ i ∈ b'.ins, KI w N i.A i.xs) (hxl : ∀ i ∈ b.ins, i.xs.length < 1000000) (hlen : b.ins.length < 1000000) :
    Ret Try.prog 68 [.agg (encBlk b).toArray, .agg (encBlk b').toArray] w N fun v L => v = .bool true ∧ L = [] := by
  refine ret_of_J cx Try.func68 rfl (Nat.le_of_ble_eq_true rfl) ho ?_
  refine s_seq ?_
  refine s_region ?_
  first | (refine s_box1 rfl rfl rfl (fun b1 => ?_)) | (refine s_boxA rfl rfl (fun b1 => ?_))
  change J _ _ _ (cb b1 42 (encBlk b) :: _) _
  first | (refine s_box1 rfl rfl rfl (fun b2 => ?_)) | (refine s_boxA rfl rfl (fun b2 => ?_))
  change J _ _ _ (cb b2 42 (encBlk b') :: _) _
  unfold encBlk
  rw [← he.kind, ← he.a, ← he.t0, ← he.t1]
  refine s_q (y_assign rfl) rfl ?_
  refine s_done ?_
  refine s_seq ?_
  refine s_region ?_
  refine s_q (by (first | exact y_fieldAddrB rfl rfl rfl rfl rfl rfl | exact y_fieldAddr rfl rfl rfl rfl rfl rfl)) rfl ?_
  refine s_q (by (first | exact y_ld rfl rfl rfl (by rfl) | exact y_ldN rfl rfl rfl (by rfl) | exact y_ldK rfl rfl rfl rfl (by assumption) (by omega) | exact y_ldI rfl rfl rfl rfl (by assumption) (by omega) (by omega))) rfl ?_
  refine s_q (by (first | exact y_fieldAddrB rfl rfl rfl rfl rfl rfl | exact y_fieldAddr rfl rfl rfl rfl rfl rfl)) rfl ?_
  refine s_q (by (first | exact y_ld rfl rfl rfl (by rfl) | exact y_ldN rfl rfl rfl (by rfl) | exact y_ldK rfl rfl rfl rfl (by assumption) (by omega) | exact y_ldI rfl rfl rfl rfl (by assumption) (by omega) (by omega))) rfl ?_
  refine s_call (pre := []) (rem := _) rfl rfl tk (fun w N ho hl => SameRow_spec w N b.A b'.A b.c b'.c b.ins.length b'.ins.length b.ins b'.ins rfl he.ins.len.symm he.ins ho (hk.of hl) (hk2.of hl) (fun i hi => (hx i hi).of hl) (fun i hi => (hy i hi).of hl) hxl hlen) rfl ?_
  rintro e L' ⟨rfl, rfl⟩
  try simp only [List.nil_append, List.cons_append, List.append_nil]
  refine s_q (y_move rfl) rfl ?_
  refine s_guard2 rfl rfl (by with_reducible rfl) ?_
  refine s_q (by (first | exact y_fieldAddrB rfl rfl rfl rfl rfl rfl | exact y_fieldAddr rfl rfl rfl rfl rfl rfl)) rfl ?_
  refine s_guard2 rfl rfl (by with_reducible rfl) ?_
  refine s_q (by (first | exact y_ldN rfl rfl rfl (by rfl) | exact y_ld rfl rfl rfl (by rfl) | exact y_ldN rfl rfl rfl (by rfl) | exact y_ldK rfl rfl rfl rfl (by assumption) (by omega) | exact y_ldI rfl rfl rfl rfl (by assumption) (by omega) (by omega))) rfl ?_
  refine s_guard2 rfl rfl (by with_reducible rfl) ?_
  refine s_q (by (first | exact y_fieldAddrB rfl rfl rfl rfl rfl rfl | exact y_fieldAddr rfl rfl rfl rfl rfl rfl)) rfl ?_
  refine s_guard2 rfl rfl (by with_reducible rfl) ?_
  refine s_q (by (first | exact y_ldN rfl rfl rfl (by rfl) | exact y_ld rfl rfl rfl (by rfl) | exact y_ldN rfl rfl rfl (by rfl) | exact y_ldK rfl rfl rfl rfl (by assumption) (by omega) | exact y_ldI rfl rfl rfl rfl (by assumption) (by omega) (by omega))) rfl ?_
  refine s_guard2 rfl rfl (by with_reducible rfl) ?_
  refine s_q (by (first | exact y_eqlTerm 37 3 38 (by kernel_rfl) rfl rfl | exact y_eql rfl rfl | exact y_eqlB rfl rfl rfl)) rfl ?_
  refine s_q (by (first | exact y_pickT rfl rfl | exact y_pickF rfl rfl)) rfl ?_
  refine s_q (y_assign rfl) rfl ?_
  refine s_done ?_
  exact s_return ⟨rfl, rfl⟩ (res_tmp Try.results68 rfl)
theorem AllLike.lenI {l bs : List BlkD} (h : AllLike l bs) {k : Nat} (hk : k < bs.length) : (l.getD k .no).like (bs.getD k .no) := h.each k hk
theorem SameBlocks_spec (w : World) (N : Nat → Prop) (T U : Option Addr) (q u n p : Nat) (l r : List BlkD) (hn : n = l.length) (hp : p = l.length) (he : AllLike l r) (ho : Owns w [] N) (hk : KB w N T l) (hk2 : KB w N U r) (hxl : ∀ b ∈ l, ∀ i ∈ b.ins, i.xs.length < 1000000) (hil : ∀ b ∈ l, b.ins.length < 1000000) (hlen : l.length < 1000000) :
    Ret Try.prog 66 [.slice T n q, .slice U p u] w N fun v L => v = .bool true ∧ L = [] := by
  subst hn hp
  have hrl := he.len
  have hkb := hk.blk
  have hkb2 := hk2.blk
  refine ret_of_J cx Try.func66 rfl (Nat.le_of_ble_eq_true rfl) ho ?_
  refine s_seq ?_
  refine s_region ?_
  refine s_q (y_assign rfl) rfl ?_
  refine s_done ?_
  refine s_seq ?_
  refine s_seq ?_
  refine s_region ?_
  refine s_q (y_move rfl) rfl ?_
  refine s_q (y_lenS rfl rfl rfl) rfl ?_
  refine s_q (y_move rfl) rfl ?_
  refine s_q (y_lenS rfl rfl rfl) rfl ?_
  refine s_q (by (first | exact y_as (y_neq rfl rfl) (congrArg Value.bool (decide_eq_false (fun h => h rfl))) | exact y_neq rfl rfl | exact y_neqB rfl rfl rfl)) rfl ?_
  refine s_done ?_
  refine s_condF2 rfl (by with_reducible rfl) ?_
  refine s_skip ?_
  refine s_seq ?_
  refine s_seq ?_
  refine s_region ?_
  refine s_q (y_assign rfl) rfl ?_
  refine s_done ?_
  refine s_block ?_
  refine s_loopV (σ := Nat) (fun s => [(5, .int .i64 s)]) (fun s => []) (fun s => (s ≤ l.length)) (fun s => l.length - s) (0) [(0, _), (1, _)] ⟨rfl, rfl, trivial⟩ ⟨rfl, trivial⟩ tk (Nat.zero_le _) ?_
  rintro k hk3
  try dsimp only [List.cons_append, List.nil_append, List.append_nil] at hk3 ⊢
  refine s_seq ?_
  refine s_seq ?_
  refine s_region ?_
  refine s_q (y_move rfl) rfl ?_
  refine s_q (y_move rfl) rfl ?_
  refine s_q (y_lenS rfl rfl rfl) rfl ?_
  refine s_q (y_lss rfl rfl) rfl ?_
  refine s_done ?_
  refine s_cond rfl (fun h => ?_) (fun h => ?_)
  · have hkl : k < l.length := by omega
    have hm := getD_mem BlkD.no hkl
    have hm2 := getD_mem (l := r) BlkD.no (k := k) (by omega)
    refine s_skip ?_
    refine s_seq ?_
    refine s_block ?_
    refine s_seq ?_
    refine d_start ?_
    refine d_take 0 rfl (by kernel_rfl) (by exact y_move rfl) rfl ?_
    refine d_take 1 rfl (by kernel_rfl) (by exact y_move rfl) rfl ?_
    refine d_take 2 rfl (by kernel_rfl) (by (first | exact y_ixE hkb rfl rfl rfl rfl rfl rfl (by omega) (by omega) | exact y_ixE hkb2 rfl rfl rfl rfl rfl hrl (by omega) (by omega) | exact y_ixI rfl rfl rfl rfl rfl (by assumption) rfl (by omega) (by omega))) rfl ?_
    refine d_take 3 rfl (by kernel_rfl) (by (first | exact y_ldE hkb rfl rfl rfl (by omega) rfl | exact y_ldE hkb2 rfl rfl rfl (by omega) rfl | exact y_ld rfl rfl rfl (by rfl) | exact y_ldN rfl rfl rfl (by rfl) | exact y_ldK rfl rfl rfl rfl (by assumption) (by omega) | exact y_ldI rfl rfl rfl rfl (by assumption) (by omega) (by omega))) rfl ?_
    refine d_take 4 rfl (by kernel_rfl) (by exact y_move rfl) rfl ?_
    refine d_take 5 rfl (by kernel_rfl) (by exact y_move rfl) rfl ?_
    refine d_take 6 rfl (by kernel_rfl) (by (first | exact y_ixE hkb rfl rfl rfl rfl rfl rfl (by omega) (by omega) | exact y_ixE hkb2 rfl rfl rfl rfl rfl hrl (by omega) (by omega) | exact y_ixI rfl rfl rfl rfl rfl (by assumption) rfl (by omega) (by omega))) rfl ?_
    refine d_take 7 rfl (by kernel_rfl) (by (first | exact y_ldE hkb rfl rfl rfl (by omega) rfl | exact y_ldE hkb2 rfl rfl rfl (by omega) rfl | exact y_ld rfl rfl rfl (by rfl) | exact y_ldN rfl rfl rfl (by rfl) | exact y_ldK rfl rfl rfl rfl (by assumption) (by omega) | exact y_ldI rfl rfl rfl rfl (by assumption) (by omega) (by omega))) rfl ?_
    refine d_effM 8 [7, 6, 5, 4, 3, 2, 1, 0] [false, true, true, true, false, true, true, true] rfl (by kernel_rfl) rfl (by kernel_rfl) (fun K hK => ?_)
    refine s_call (pre := []) (rem := _) rfl rfl tk (fun w N ho hl => SameBlock_spec w N _ _ (he.each k (by omega)) ho ((hk.ins _ hm).of hl) ((hk2.ins _ hm2).of hl) (fun i hi => (hk.args _ hm i hi).of hl) (fun i hi => (hk2.args _ hm2 i hi).of hl) (hxl _ hm) (hil _ hm)) rfl ?_
    rintro e L' ⟨rfl, rfl⟩
    try simp only [List.nil_append, List.cons_append, List.append_nil]
    refine s_done ?_
    refine hK _ _ (by refine rm_skip ?_; refine rm_yd rfl (by (first | exact y_ixE hkb rfl rfl rfl rfl rfl rfl (by omega) (by omega) | exact y_ixE hkb2 rfl rfl rfl rfl rfl hrl (by omega) (by omega) | exact y_ixI rfl rfl rfl rfl rfl (by assumption) rfl (by omega) (by omega))) ?_; refine rm_yd rfl (by exact y_move rfl) ?_; refine rm_yd rfl (by exact y_move rfl) ?_; refine rm_skip ?_; refine rm_yd rfl (by (first | exact y_ixE hkb rfl rfl rfl rfl rfl rfl (by omega) (by omega) | exact y_ixE hkb2 rfl rfl rfl rfl rfl hrl (by omega) (by omega) | exact y_ixI rfl rfl rfl rfl rfl (by assumption) rfl (by omega) (by omega))) ?_; refine rm_yd rfl (by exact y_move rfl) ?_; refine rm_yd rfl (by exact y_move rfl) ?_; exact rm_nil) ?_
    clear hK K
    refine d_take 9 rfl (by kernel_rfl) (by (first | exact y_notT rfl | exact y_notF rfl | exact y_notp rfl | exact y_notb rfl)) rfl ?_
    refine d_done (by kernel_rfl) ?_
    refine s_condF2 rfl (congrArg Value.bool (by decide)) ?_
    refine s_skip ?_
    refine s_endb ?_
    refine s_region ?_
    refine s_q (y_move rfl) rfl ?_
    refine s_q (y_add rfl rfl (by omega)) rfl ?_
    refine s_q (y_assign rfl) rfl ?_
    refine s_done ?_
    refine s_inv (k + 1) (by (try dsimp only); omega) (by (try dsimp only); omega) ⟨rfl, rfl, rfl, trivial⟩ tk
  · refine s_exit rfl ?_
    refine s_seq ?_
    refine s_region ?_
    refine s_q (y_assign rfl) rfl ?_
    refine s_done ?_
    exact s_return ⟨rfl, rfl⟩ (res_tmp Try.results66 rfl)
theorem SameTarget_spec (w : World) (N : Nat → Prop) (T U : Option Addr) (q u n p : Nat) (f : Int) (l r : List BlkD) (hn : n = l.length) (hp : p = l.length) (he : AllLike l r) (ho : Owns w [] N) (hk : KB w N T l) (hk2 : KB w N U r) (hxl : ∀ b ∈ l, ∀ i ∈ b.ins, i.xs.length < 1000000) (hil : ∀ b ∈ l, b.ins.length < 1000000) (hlen : l.length < 1000000) :
    Ret Try.prog 45 [.agg #[.int .i64 f, .slice T n q], .agg #[.int .i64 f, .slice U p u]] w N fun v L => v = .bool true ∧ L = [] := by
  refine ret_of_J cx Try.func45 rfl (Nat.le_of_ble_eq_true rfl) ho ?_
  refine s_seq ?_
  refine s_region ?_
  first | (refine s_box1 rfl rfl rfl (fun b1 => ?_)) | (refine s_boxA rfl rfl (fun b1 => ?_))
  change J _ _ _ (cb b1 27 [.int .i64 f, .slice T n q] :: _) _
  first | (refine s_box1 rfl rfl rfl (fun b2 => ?_)) | (refine s_boxA rfl rfl (fun b2 => ?_))
  change J _ _ _ (cb b2 27 [.int .i64 f, .slice U p u] :: _) _
  refine s_q (y_assign rfl) rfl ?_
  refine s_done ?_
  refine s_seq ?_
  refine s_region ?_
  refine s_q (by (first | exact y_fieldAddrB rfl rfl rfl rfl rfl rfl | exact y_fieldAddr rfl rfl rfl rfl rfl rfl)) rfl ?_
  refine s_q (by (first | exact y_ld rfl rfl rfl (by rfl) | exact y_ldN rfl rfl rfl (by rfl) | exact y_ldK rfl rfl rfl rfl (by assumption) (by omega) | exact y_ldI rfl rfl rfl rfl (by assumption) (by omega) (by omega))) rfl ?_
  refine s_q (by (first | exact y_fieldAddrB rfl rfl rfl rfl rfl rfl | exact y_fieldAddr rfl rfl rfl rfl rfl rfl)) rfl ?_
  refine s_q (by (first | exact y_ld rfl rfl rfl (by rfl) | exact y_ldN rfl rfl rfl (by rfl) | exact y_ldK rfl rfl rfl rfl (by assumption) (by omega) | exact y_ldI rfl rfl rfl rfl (by assumption) (by omega) (by omega))) rfl ?_
  refine s_q (by (first | exact y_as (y_eql rfl rfl) (congrArg Value.bool (decide_eq_true rfl)) | exact y_eql rfl rfl | exact y_eqlB rfl rfl rfl)) rfl ?_
  refine s_q (y_move rfl) rfl ?_
  refine s_guard2 rfl rfl (by with_reducible rfl) ?_
  refine s_q (by (first | exact y_fieldAddrB rfl rfl rfl rfl rfl rfl | exact y_fieldAddr rfl rfl rfl rfl rfl rfl)) rfl ?_
  refine s_guard2 rfl rfl (by with_reducible rfl) ?_
  refine s_q (by (first | exact y_ld rfl rfl rfl (by rfl) | exact y_ldN rfl rfl rfl (by rfl) | exact y_ldK rfl rfl rfl rfl (by assumption) (by omega) | exact y_ldI rfl rfl rfl rfl (by assumption) (by omega) (by omega))) rfl ?_
  refine s_guard2 rfl rfl (by with_reducible rfl) ?_
  refine s_q (by (first | exact y_fieldAddrB rfl rfl rfl rfl rfl rfl | exact y_fieldAddr rfl rfl rfl rfl rfl rfl)) rfl ?_
  refine s_guard2 rfl rfl (by with_reducible rfl) ?_
  refine s_q (by (first | exact y_ld rfl rfl rfl (by rfl) | exact y_ldN rfl rfl rfl (by rfl) | exact y_ldK rfl rfl rfl rfl (by assumption) (by omega) | exact y_ldI rfl rfl rfl rfl (by assumption) (by omega) (by omega))) rfl ?_
  refine s_guard2 rfl rfl (by with_reducible rfl) ?_
  refine s_call (pre := []) (rem := _) rfl rfl tk (fun w N ho hl => SameBlocks_spec w N T U q u n p l r hn hp he ho (hk.of hl) (hk2.of hl) hxl hil hlen) rfl ?_
  rintro e L' ⟨rfl, rfl⟩
  try simp only [List.nil_append, List.cons_append, List.append_nil]
  refine s_q (by (first | exact y_pickT rfl rfl | exact y_pickF rfl rfl)) rfl ?_
  refine s_q (y_assign rfl) rfl ?_
  refine s_done ?_
  exact s_return ⟨rfl, rfl⟩ (res_tmp Try.results45 rfl)
/-- A lent instruction and the one it was lent of. -/
theorem KeptIns_spec (w : World) (N : Nat → Prop) (i j : InsD) (he : i.core = j.core) (ho : Owns w [] N) (hi : KI w N i.A (i.xs ++ marks)) (hc : i.xs.length + 12 ≤ i.c) (hj : KI w N j.A j.xs) (hlen : i.xs.length < 1000000) :
    Ret Try.prog 81 [.agg (encIns i).toArray, .agg (encIns j).toArray] w N fun v L => v = .bool true ∧ L = [] := by
  have hxs := (core_xs he).1
  refine ret_of_J cx Try.func81 rfl (Nat.le_of_ble_eq_true rfl) ho ?_
  refine s_seq ?_
  refine s_region ?_
  first | (refine s_box1 rfl rfl rfl (fun b1 => ?_)) | (refine s_boxA rfl rfl (fun b1 => ?_))
  change J _ _ _ (cb b1 30 (encIns i) :: _) _
  first | (refine s_box1 rfl rfl rfl (fun b2 => ?_)) | (refine s_boxA rfl rfl (fun b2 => ?_))
  change J _ _ _ (cb b2 30 (encIns j) :: _) _
  refine s_q (y_assign rfl) rfl ?_
  refine s_done ?_
  refine s_seq ?_
  refine s_region ?_
  refine s_q (by (first | exact y_ldN rfl rfl rfl (by rfl) | exact y_ld rfl rfl rfl (by rfl) | exact y_ldN rfl rfl rfl (by rfl) | exact y_ldK rfl rfl rfl rfl (by assumption) (by omega) | exact y_ldI rfl rfl rfl rfl (by assumption) (by omega) (by omega))) rfl ?_
  refine s_q (by (first | exact y_ldN rfl rfl rfl (by rfl) | exact y_ld rfl rfl rfl (by rfl) | exact y_ldN rfl rfl rfl (by rfl) | exact y_ldK rfl rfl rfl rfl (by assumption) (by omega) | exact y_ldI rfl rfl rfl rfl (by assumption) (by omega) (by omega))) rfl ?_
  refine s_call (pre := []) (rem := _) rfl rfl tk (fun w N ho hl => SameIns_spec w N i j he ho ((KI.pre hi).of hl) (hj.of hl) hlen) rfl ?_
  rintro e L' ⟨rfl, rfl⟩
  try simp only [List.nil_append, List.cons_append, List.append_nil]
  refine s_q (y_move rfl) rfl ?_
  refine s_guard2 rfl rfl (by with_reducible rfl) ?_
  refine s_q (by (first | exact y_fieldAddrB rfl rfl rfl rfl rfl rfl | exact y_fieldAddr rfl rfl rfl rfl rfl rfl)) rfl ?_
  refine s_guard2 rfl rfl (by with_reducible rfl) ?_
  refine s_q (by (first | exact y_ld rfl rfl rfl (by rfl) | exact y_ldN rfl rfl rfl (by rfl) | exact y_ldK rfl rfl rfl rfl (by assumption) (by omega) | exact y_ldI rfl rfl rfl rfl (by assumption) (by omega) (by omega))) rfl ?_
  refine s_guard2 rfl rfl (by with_reducible rfl) ?_
  refine s_q (by (first | exact y_fieldAddrB rfl rfl rfl rfl rfl rfl | exact y_fieldAddr rfl rfl rfl rfl rfl rfl)) rfl ?_
  refine s_guard2 rfl rfl (by with_reducible rfl) ?_
  refine s_q (by (first | exact y_ld rfl rfl rfl (by rfl) | exact y_ldN rfl rfl rfl (by rfl) | exact y_ldK rfl rfl rfl rfl (by assumption) (by omega) | exact y_ldI rfl rfl rfl rfl (by assumption) (by omega) (by omega))) rfl ?_
  refine s_guard2 rfl rfl (by with_reducible rfl) ?_
  refine s_call (pre := []) (rem := _) rfl rfl tk (fun w N ho hl => KeptInts_spec w N i.A j.A i.c j.c i.xs.length j.xs.length i.xs rfl (by rw [hxs]) ho (hi.of hl) (by rw [hxs]; exact hj.of hl) hc hlen) rfl ?_
  rintro e L' ⟨rfl, rfl⟩
  try simp only [List.nil_append, List.cons_append, List.append_nil]
  refine s_q (by (first | exact y_pickT rfl rfl | exact y_pickF rfl rfl)) rfl ?_
  refine s_q (y_assign rfl) rfl ?_
  refine s_done ?_
  exact s_return ⟨rfl, rfl⟩ (res_tmp Try.results81 rfl)
theorem marksI_len : marksI.length = 12 := by simp [marksI]
theorem marksB_len : marksB.length = 12 := by simp [marksB]
theorem marksI_at {i : Nat} (h : i < 12) : marksI.getD i .no = mkI i := by simp [marksI, List.getD_eq_getElem?_getD, h]
theorem marksB_at {i : Nat} (h : i < 12) : marksB.getD i .no = mkB i := by simp [marksB, List.getD_eq_getElem?_getD, h]
theorem Alike.at {l r : List InsD} (he : Alike l r) {k : Nat} (hkl : k < l.length) : (l.getD k .no).core = (r.getD k .no).core := by
  have hrl := he.len
  have := congrArg (fun z => z[k]?) he
  simp only [List.getElem?_map] at this
  rw [List.getElem?_eq_getElem hkl, List.getElem?_eq_getElem (by omega)] at this
  rw [List.getD_eq_getElem?_getD, List.getElem?_eq_getElem hkl, List.getD_eq_getElem?_getD, List.getElem?_eq_getElem (by omega)]
  exact Option.some.inj this
theorem KeptRow_spec (w : World) (N : Nat → Prop) (A B : Option Addr) (c d n p : Nat) (l r : List InsD) (hn : n = l.length) (hp : p = l.length) (he : Alike l r) (ho : Owns w [] N) (hk : KE 8 encIns .no w N A (l ++ marksI)) (hc : l.length + 12 ≤ c) (hk2 : KE 8 encIns .no w N B r)
    (hx : ∀ i ∈ l, KI w N i.A (i.xs ++ marks) ∧ i.xs.length + 12 ≤ i.c) (hy : ∀ i ∈ r, KI w N i.A i.xs) (hxl : ∀ i ∈ l, i.xs.length < 1000000) (hlen : l.length < 1000000) :
    Ret Try.prog 75 [.slice A n c, .slice B p d] w N fun v L => v = .bool true ∧ L = [] := by
  subst hn hp
  have hrl := he.len
  have hml : (l ++ marksI).length = l.length + 12 := by rw [List.length_append, marksI_len]
  refine ret_of_J cx Try.func75 rfl (Nat.le_of_ble_eq_true rfl) ho ?_
  refine s_seq ?_
  refine s_region ?_
  refine s_q (y_assign rfl) rfl ?_
  refine s_done ?_
  refine s_seq ?_
  refine s_seq ?_
  refine s_region ?_
  refine s_q (y_move rfl) rfl ?_
  refine s_q (y_lenS rfl rfl rfl) rfl ?_
  refine s_q (y_move rfl) rfl ?_
  refine s_q (y_lenS rfl rfl rfl) rfl ?_
  refine s_q (by (first | exact y_as (y_neq rfl rfl) (congrArg Value.bool (decide_eq_false (fun h => h rfl))) | exact y_neq rfl rfl | exact y_neqB rfl rfl rfl)) rfl ?_
  refine s_done ?_
  refine s_condF2 rfl (by with_reducible rfl) ?_
  refine s_skip ?_
  refine s_seq ?_
  refine s_region ?_
  refine s_q (y_move rfl) rfl ?_
  refine s_q (y_move rfl) rfl ?_
  refine s_q (y_lenS rfl rfl rfl) rfl ?_
  refine s_q (y_add rfl rfl (by omega)) rfl ?_
  refine s_q (by (first | exact y_sliceHi (m := l.length + 12) rfl rfl (by omega) (by omega) rfl rfl | exact y_sliceHi rfl rfl rfl (by omega) rfl rfl)) rfl ?_
  refine s_q (y_assign rfl) rfl ?_
  refine s_done ?_
  refine s_seq ?_
  refine s_seq ?_
  refine s_region ?_
  refine s_q (y_assign rfl) rfl ?_
  refine s_done ?_
  refine s_block ?_
  refine s_loopV (σ := Nat) (fun s => [(6, .int .i64 s)]) (fun s => []) (fun s => (s ≤ l.length + 12)) (fun s => l.length + 12 - s) (0) [(1, _), (5, _)] ⟨rfl, rfl, trivial⟩ ⟨rfl, trivial⟩ tk (Nat.zero_le _) ?_
  rintro i hi
  try dsimp only [List.cons_append, List.nil_append, List.append_nil] at hi ⊢
  refine s_seq ?_
  refine s_seq ?_
  refine s_region ?_
  refine s_q (y_move rfl) rfl ?_
  refine s_q (y_move rfl) rfl ?_
  refine s_q (y_lenS rfl rfl rfl) rfl ?_
  refine s_q (y_lss rfl rfl) rfl ?_
  refine s_done ?_
  refine s_cond rfl (fun h => ?_) (fun h => ?_)
  · refine s_skip ?_
    refine s_seq ?_
    refine s_block ?_
    refine s_seq ?_
    refine s_joinV (σ := Unit) (fun s => [(57, .bool false)]) [] (fun s => []) (fun s => True) [(1, _), (5, _), (6, _)] ⟨rfl, rfl, rfl, trivial⟩ tk (fun k' hr => ?_) ?_
    · by_cases hlt : (i : Int) < (l.length : Int)
      · have hge : ¬ (i : Int) ≥ (l.length : Int) := by omega
        have hkl : i < l.length := by omega
        have hm := getD_mem InsD.no hkl
        have hm2 := getD_mem (l := r) InsD.no (k := i) (by omega)
        have e1 : (l ++ marksI).getD i .no = l.getD i .no := app_getD_l hkl
        refine d_start ?_
        refine d_take 0 rfl (by kernel_rfl) (by exact y_move rfl) rfl ?_
        refine d_take 1 rfl (by kernel_rfl) (by exact y_move rfl) rfl ?_
        refine d_take 2 rfl (by kernel_rfl) (by exact y_lenS rfl rfl rfl) rfl ?_
        refine d_take 3 rfl (by kernel_rfl) (by (first | exact y_as (y_lss rfl rfl) (congrArg Value.bool (decide_eq_true hlt)) | exact y_lss rfl rfl)) rfl ?_
        refine d_take 4 rfl (by kernel_rfl) (by exact y_move rfl) rfl ?_
        refine d_takeG 5 rfl (by kernel_rfl) rfl rfl (by exact y_move rfl) rfl ?_
        refine d_takeG 6 rfl (by kernel_rfl) rfl rfl (by exact y_move rfl) rfl ?_
        refine d_takeG 7 rfl (by kernel_rfl) rfl rfl (by (first | exact y_ixE hk rfl rfl rfl rfl rfl hml.symm (by omega) (by omega) | exact y_ixE hk2 rfl rfl rfl rfl rfl hrl (by omega) (by omega) | exact y_ixI rfl rfl rfl rfl rfl (by assumption) rfl (by omega) (by omega))) rfl ?_
        refine d_takeG 8 rfl (by kernel_rfl) rfl rfl (by (first | exact y_as (y_ldE hk rfl rfl rfl (by omega) rfl) (congrArg (fun z => Value.agg (encIns z).toArray) e1) | exact y_ldE hk2 rfl rfl rfl (by omega) rfl | exact y_ld rfl rfl rfl (by rfl) | exact y_ldN rfl rfl rfl (by rfl) | exact y_ldK rfl rfl rfl rfl (by assumption) (by omega) | exact y_ldI rfl rfl rfl rfl (by assumption) (by omega) (by omega))) rfl ?_
        refine d_takeG 9 rfl (by kernel_rfl) rfl rfl (by exact y_move rfl) rfl ?_
        refine d_takeG 10 rfl (by kernel_rfl) rfl rfl (by exact y_move rfl) rfl ?_
        refine d_takeG 11 rfl (by kernel_rfl) rfl rfl (by (first | exact y_ixE hk rfl rfl rfl rfl rfl hml.symm (by omega) (by omega) | exact y_ixE hk2 rfl rfl rfl rfl rfl hrl (by omega) (by omega) | exact y_ixI rfl rfl rfl rfl rfl (by assumption) rfl (by omega) (by omega))) rfl ?_
        refine d_takeG 12 rfl (by kernel_rfl) rfl rfl (by (first | exact y_as (y_ldE hk rfl rfl rfl (by omega) rfl) (congrArg (fun z => Value.agg (encIns z).toArray) e1) | exact y_ldE hk2 rfl rfl rfl (by omega) rfl | exact y_ld rfl rfl rfl (by rfl) | exact y_ldN rfl rfl rfl (by rfl) | exact y_ldK rfl rfl rfl rfl (by assumption) (by omega) | exact y_ldI rfl rfl rfl rfl (by assumption) (by omega) (by omega))) rfl ?_
        refine d_effM 13 [12, 11, 10, 9, 8, 7, 6, 5, 4, 3, 2, 1, 0] [false, true, true, true, false, true, true, true, false, true, true, true, true] rfl (by kernel_rfl) rfl (by kernel_rfl) (fun K hK => ?_)
        refine s_guard rfl rfl ?_
        refine s_call (pre := []) (rem := _) rfl rfl tk (fun w N ho hl => KeptIns_spec w N (l.getD i .no) (r.getD i .no) (he.at hkl) ho ((hx _ hm).1.of hl) (hx _ hm).2 ((hy _ hm2).of hl) (hxl _ hm)) rfl ?_
        rintro e L' ⟨rfl, rfl⟩
        try simp only [List.nil_append, List.cons_append, List.append_nil]
        refine s_done ?_
        refine hK _ _ (by refine rm_skip ?_; refine rm_yd rfl (by (first | exact y_ixE hk rfl rfl rfl rfl rfl hml.symm (by omega) (by omega) | exact y_ixE hk2 rfl rfl rfl rfl rfl hrl (by omega) (by omega) | exact y_ixI rfl rfl rfl rfl rfl (by assumption) rfl (by omega) (by omega))) ?_; refine rm_yd rfl (by exact y_move rfl) ?_; refine rm_yd rfl (by exact y_move rfl) ?_; refine rm_skip ?_; refine rm_yd rfl (by (first | exact y_ixE hk rfl rfl rfl rfl rfl hml.symm (by omega) (by omega) | exact y_ixE hk2 rfl rfl rfl rfl rfl hrl (by omega) (by omega) | exact y_ixI rfl rfl rfl rfl rfl (by assumption) rfl (by omega) (by omega))) ?_; refine rm_yd rfl (by exact y_move rfl) ?_; refine rm_yd rfl (by exact y_move rfl) ?_; refine rm_skip ?_; refine rm_yd rfl (by (first | exact y_as (y_lss rfl rfl) (congrArg Value.bool (decide_eq_true hlt)) | exact y_lss rfl rfl)) ?_; refine rm_yd rfl (by exact y_lenS rfl rfl rfl) ?_; refine rm_yd rfl (by exact y_move rfl) ?_; refine rm_yd rfl (by exact y_move rfl) ?_; exact rm_nil) ?_
        clear hK K
        refine d_takeG 14 rfl (by kernel_rfl) rfl rfl (by (first | exact y_notT rfl | exact y_notF rfl | exact y_notp rfl | exact y_notb rfl)) rfl ?_
        refine d_take 15 rfl (by kernel_rfl) (by (first | exact y_pickT rfl rfl | exact y_pickF rfl rfl)) rfl ?_
        refine d_take 16 rfl (by kernel_rfl) (by exact y_move rfl) rfl ?_
        refine d_takeG 17 rfl (by kernel_rfl) rfl rfl (by exact y_move rfl) rfl ?_
        refine d_takeG 18 rfl (by kernel_rfl) rfl rfl (by exact y_move rfl) rfl ?_
        refine d_takeG 19 rfl (by kernel_rfl) rfl rfl (by exact y_lenS rfl rfl rfl) rfl ?_
        refine d_takeG 20 rfl (by kernel_rfl) rfl rfl (by (first | exact y_as (y_geq rfl rfl) (congrArg Value.bool (decide_eq_false hge)) | exact y_geq rfl rfl)) rfl ?_
        refine d_takeG 21 rfl (by kernel_rfl) rfl rfl (by exact y_move rfl) rfl ?_
        refine d_skip 22 rfl (by kernel_rfl) (fun c e => by cases e) rfl rfl rfl rfl ?_
        refine d_skip 23 rfl (by kernel_rfl) (fun c e => by cases e) rfl rfl rfl rfl ?_
        refine d_skip 24 rfl (by kernel_rfl) (fun c e => by cases e) rfl rfl rfl rfl ?_
        refine d_skip 25 rfl (by kernel_rfl) (fun c e => by cases e) rfl rfl rfl rfl ?_
        refine d_skip 26 rfl (by kernel_rfl) (fun c e => by cases e) rfl rfl rfl rfl ?_
        refine d_skip 27 rfl (by kernel_rfl) (fun c e => by cases e) rfl rfl rfl rfl ?_
        refine d_skip 28 rfl (by kernel_rfl) (fun c e => by cases e) rfl rfl rfl rfl ?_
        refine d_skip 29 rfl (by kernel_rfl) (fun c e => by cases e) rfl rfl rfl rfl ?_
        refine d_skip 30 rfl (by kernel_rfl) (fun c e => by cases e) rfl rfl rfl rfl ?_
        refine d_skip 31 rfl (by kernel_rfl) (fun c e => by cases e) rfl rfl rfl rfl ?_
        refine d_skip 32 rfl (by kernel_rfl) (fun c e => by cases e) rfl rfl rfl rfl ?_
        refine d_takeG 33 rfl (by kernel_rfl) rfl rfl (by (first | exact y_pickT rfl rfl | exact y_pickF rfl rfl)) rfl ?_
        refine d_take 34 rfl (by kernel_rfl) (by (first | exact y_pickT rfl rfl | exact y_pickF rfl rfl)) rfl ?_
        refine d_done (by kernel_rfl) ?_
        have hr' := hr () trivial
        try dsimp only [List.cons_append, List.nil_append, List.append_nil] at hr'
        exact J.to hr' ⟨rfl, rfl, rfl, rfl, trivial⟩ tk
      · have hge : (i : Int) ≥ (l.length : Int) := by omega
        obtain ⟨j, rfl⟩ : ∃ j, i = l.length + j := ⟨i - l.length, by omega⟩
        have e1 : (l ++ marksI).getD (l.length + j) .no = mkI j := by rw [app_getD_r (by omega), Nat.add_sub_cancel_left, marksI_at (by omega)]
        have e2 : ((l.length + j : Nat) : Int) - (l.length : Int) = (j : Int) := by omega
        refine d_start ?_
        refine d_take 0 rfl (by kernel_rfl) (by exact y_move rfl) rfl ?_
        refine d_take 1 rfl (by kernel_rfl) (by exact y_move rfl) rfl ?_
        refine d_take 2 rfl (by kernel_rfl) (by exact y_lenS rfl rfl rfl) rfl ?_
        refine d_take 3 rfl (by kernel_rfl) (by (first | exact y_as (y_lss rfl rfl) (congrArg Value.bool (decide_eq_false hlt)) | exact y_lss rfl rfl)) rfl ?_
        refine d_take 4 rfl (by kernel_rfl) (by exact y_move rfl) rfl ?_
        refine d_skip 5 rfl (by kernel_rfl) (fun c e => by cases e) rfl rfl rfl rfl ?_
        refine d_skip 6 rfl (by kernel_rfl) (fun c e => by cases e) rfl rfl rfl rfl ?_
        refine d_skip 7 rfl (by kernel_rfl) (fun c e => by cases e) rfl rfl rfl rfl ?_
        refine d_skip 8 rfl (by kernel_rfl) (fun c e => by cases e) rfl rfl rfl rfl ?_
        refine d_skip 9 rfl (by kernel_rfl) (fun c e => by cases e) rfl rfl rfl rfl ?_
        refine d_skip 10 rfl (by kernel_rfl) (fun c e => by cases e) rfl rfl rfl rfl ?_
        refine d_skip 11 rfl (by kernel_rfl) (fun c e => by cases e) rfl rfl rfl rfl ?_
        refine d_skip 12 rfl (by kernel_rfl) (fun c e => by cases e) rfl rfl rfl rfl ?_
        refine d_skip 13 rfl (by kernel_rfl) (fun c e => by cases e) rfl rfl rfl rfl ?_
        refine d_skip 14 rfl (by kernel_rfl) (fun c e => by cases e) rfl rfl rfl rfl ?_
        refine d_take 15 rfl (by kernel_rfl) (by (first | exact y_pickT rfl rfl | exact y_pickF rfl rfl)) rfl ?_
        refine d_take 16 rfl (by kernel_rfl) (by exact y_move rfl) rfl ?_
        refine d_takeG 17 rfl (by kernel_rfl) rfl rfl (by exact y_move rfl) rfl ?_
        refine d_takeG 18 rfl (by kernel_rfl) rfl rfl (by exact y_move rfl) rfl ?_
        refine d_takeG 19 rfl (by kernel_rfl) rfl rfl (by exact y_lenS rfl rfl rfl) rfl ?_
        refine d_takeG 20 rfl (by kernel_rfl) rfl rfl (by (first | exact y_as (y_geq rfl rfl) (congrArg Value.bool (decide_eq_true hge)) | exact y_geq rfl rfl)) rfl ?_
        refine d_takeG 21 rfl (by kernel_rfl) rfl rfl (by exact y_move rfl) rfl ?_
        refine d_takeG 22 rfl (by kernel_rfl) rfl rfl (by exact y_move rfl) rfl ?_
        refine d_takeG 23 rfl (by kernel_rfl) rfl rfl (by exact y_move rfl) rfl ?_
        refine d_takeG 24 rfl (by kernel_rfl) rfl rfl (by (first | exact y_ixE hk rfl rfl rfl rfl rfl hml.symm (by omega) (by omega) | exact y_ixI rfl rfl rfl rfl rfl (by assumption) rfl (by omega) (by omega))) rfl ?_
        refine d_takeG 25 rfl (by kernel_rfl) rfl rfl (by (first | exact y_as (y_ldE hk rfl rfl rfl (by omega) rfl) (congrArg (fun z => Value.agg (encIns z).toArray) e1) | exact y_ld rfl rfl rfl (by rfl) | exact y_ldN rfl rfl rfl (by rfl) | exact y_ldK rfl rfl rfl rfl (by assumption) (by omega) | exact y_ldI rfl rfl rfl rfl (by assumption) (by omega) (by omega))) rfl ?_
        refine d_takeG 26 rfl (by kernel_rfl) rfl rfl (by exact y_move rfl) rfl ?_
        refine d_takeG 27 rfl (by kernel_rfl) rfl rfl (by exact y_move rfl) rfl ?_
        refine d_takeG 28 rfl (by kernel_rfl) rfl rfl (by exact y_lenS rfl rfl rfl) rfl ?_
        refine d_takeG 29 rfl (by kernel_rfl) rfl rfl (by (first | exact y_as (y_sub rfl rfl (by omega)) (congrArg (Value.int .i64) e2) | exact y_sub rfl rfl (by omega))) rfl ?_
        refine d_effM 30 [29, 28, 27, 26, 25, 24, 23, 22, 21, 20, 19, 18, 17, 16, 15, 4, 3, 2, 1, 0] [false, true, true, true, true, true, true, true, false, true, true, true, true, true, true, true, true, true, true, true] rfl (by kernel_rfl) rfl (by kernel_rfl) (fun K hK => ?_)
        refine s_guard rfl rfl ?_
        refine s_call (pre := []) (rem := _) rfl rfl tk (fun w N ho hl => markIns_spec w N j ho (by omega)) rfl ?_
        rintro e L' ⟨rfl, rfl⟩
        try simp only [List.nil_append, List.cons_append, List.append_nil]
        refine s_done ?_
        refine hK _ _ (by refine rm_skip ?_; refine rm_yd rfl (by exact y_lenS rfl rfl rfl) ?_; refine rm_yd rfl (by exact y_move rfl) ?_; refine rm_yd rfl (by exact y_move rfl) ?_; refine rm_yd rfl (by (first | exact y_as (y_ldE hk rfl rfl rfl (by omega) rfl) (congrArg (fun z => Value.agg (encIns z).toArray) e1) | exact y_ld rfl rfl rfl (by rfl) | exact y_ldN rfl rfl rfl (by rfl) | exact y_ldK rfl rfl rfl rfl (by assumption) (by omega) | exact y_ldI rfl rfl rfl rfl (by assumption) (by omega) (by omega))) ?_; refine rm_yd rfl (by (first | exact y_ixE hk rfl rfl rfl rfl rfl hml.symm (by omega) (by omega) | exact y_ixI rfl rfl rfl rfl rfl (by assumption) rfl (by omega) (by omega))) ?_; refine rm_yd rfl (by exact y_move rfl) ?_; refine rm_yd rfl (by exact y_move rfl) ?_; refine rm_skip ?_; refine rm_yd rfl (by (first | exact y_as (y_geq rfl rfl) (congrArg Value.bool (decide_eq_true hge)) | exact y_geq rfl rfl)) ?_; refine rm_yd rfl (by exact y_lenS rfl rfl rfl) ?_; refine rm_yd rfl (by exact y_move rfl) ?_; refine rm_yd rfl (by exact y_move rfl) ?_; refine rm_yd rfl (by exact y_move rfl) ?_; refine rm_yd rfl (by (first | exact y_pickT rfl rfl | exact y_pickF rfl rfl)) ?_; refine rm_yd rfl (by exact y_move rfl) ?_; refine rm_yd rfl (by (first | exact y_as (y_lss rfl rfl) (congrArg Value.bool (decide_eq_false hlt)) | exact y_lss rfl rfl)) ?_; refine rm_yd rfl (by exact y_lenS rfl rfl rfl) ?_; refine rm_yd rfl (by exact y_move rfl) ?_; refine rm_yd rfl (by exact y_move rfl) ?_; exact rm_nil) ?_
        clear hK K
        refine d_effM 31 [28, 27, 26, 25, 24, 23, 22, 20, 19, 18, 17, 16, 15, 4, 3, 2, 1, 0] [true, true, true, false, true, true, true, true, true, true, true, true, true, true, true, true, true, true] rfl (by kernel_rfl) rfl (by kernel_rfl) (fun K hK => ?_)
        refine s_guard rfl rfl ?_
        refine s_call (pre := []) (rem := _) rfl rfl tk (fun w N ho hl => SameIns_spec w N (mkI j) (mkI j) rfl ho KI.nil KI.nil (by simp [mkI])) rfl ?_
        rintro e L' ⟨rfl, rfl⟩
        try simp only [List.nil_append, List.cons_append, List.append_nil]
        refine s_done ?_
        refine hK _ _ (by refine rm_yd rfl (by exact y_lenS rfl rfl rfl) ?_; refine rm_yd rfl (by exact y_move rfl) ?_; refine rm_yd rfl (by exact y_move rfl) ?_; refine rm_skip ?_; refine rm_yd rfl (by (first | exact y_ixE hk rfl rfl rfl rfl rfl hml.symm (by omega) (by omega) | exact y_ixI rfl rfl rfl rfl rfl (by assumption) rfl (by omega) (by omega))) ?_; refine rm_yd rfl (by exact y_move rfl) ?_; refine rm_yd rfl (by exact y_move rfl) ?_; refine rm_yd rfl (by (first | exact y_as (y_geq rfl rfl) (congrArg Value.bool (decide_eq_true hge)) | exact y_geq rfl rfl)) ?_; refine rm_yd rfl (by exact y_lenS rfl rfl rfl) ?_; refine rm_yd rfl (by exact y_move rfl) ?_; refine rm_yd rfl (by exact y_move rfl) ?_; refine rm_yd rfl (by exact y_move rfl) ?_; refine rm_yd rfl (by (first | exact y_pickT rfl rfl | exact y_pickF rfl rfl)) ?_; refine rm_yd rfl (by exact y_move rfl) ?_; refine rm_yd rfl (by (first | exact y_as (y_lss rfl rfl) (congrArg Value.bool (decide_eq_false hlt)) | exact y_lss rfl rfl)) ?_; refine rm_yd rfl (by exact y_lenS rfl rfl rfl) ?_; refine rm_yd rfl (by exact y_move rfl) ?_; refine rm_yd rfl (by exact y_move rfl) ?_; exact rm_nil) ?_
        clear hK K
        refine d_takeG 32 rfl (by kernel_rfl) rfl rfl (by (first | exact y_notT rfl | exact y_notF rfl | exact y_notp rfl | exact y_notb rfl)) rfl ?_
        refine d_takeG 33 rfl (by kernel_rfl) rfl rfl (by (first | exact y_pickT rfl rfl | exact y_pickF rfl rfl)) rfl ?_
        refine d_take 34 rfl (by kernel_rfl) (by (first | exact y_pickT rfl rfl | exact y_pickF rfl rfl)) rfl ?_
        refine d_done (by kernel_rfl) ?_
        have hr' := hr () trivial
        try dsimp only [List.cons_append, List.nil_append, List.append_nil] at hr'
        exact J.to hr' ⟨rfl, rfl, rfl, rfl, trivial⟩ tk
    rintro - -
    dsimp only [List.cons_append, List.nil_append]
    refine s_condF2 rfl (by with_reducible rfl) ?_
    refine s_skip ?_
    refine s_endb ?_
    refine s_region ?_
    refine s_q (y_move rfl) rfl ?_
    refine s_q (y_add rfl rfl (by omega)) rfl ?_
    refine s_q (y_assign rfl) rfl ?_
    refine s_done ?_
    refine s_inv (i + 1) (by (try dsimp only); omega) (by (try dsimp only); omega) ⟨rfl, rfl, rfl, trivial⟩ tk
  · refine s_exit rfl ?_
    refine s_seq ?_
    refine s_region ?_
    refine s_q (y_assign rfl) rfl ?_
    refine s_done ?_
    exact s_return ⟨rfl, rfl⟩ (res_tmp Try.results75 rfl)
end Go.Proofs.Ytgpebcfeeagoaaa
